/- Contracts: which of two lists of numbers comes first, by the reference. -/
import Derived.Test.YtnlnjpdnhdmndaaGreatDoorTabM
import Derived.Test.YtnlnjpdnhdmndaaGreatDoorGJ
namespace Go.Proofs.YtnlnjpdnhdmndaaGreatDoor
open Go Go.RowKit
set_option linter.unusedVariables false
set_option linter.unusedSimpArgs false

structure TlBd (t : Tl) : Prop where
  u0 : -1 ≤ t.u
  u1 : t.u ≤ 960000000
  c0 : 0 ≤ t.c
  c1 : t.c ≤ 1152921504606846976
  len : t.b.length ≤ 60
theorem pow_bd {n : Nat} (h : n ≤ 60) : (2 : Int) ^ n ≤ 1152921504606846976 := by
  have := Nat.pow_le_pow_right (n := 2) (by decide) h
  have e : (2 : Nat) ^ 60 = 1152921504606846976 := by decide
  rw [e] at this
  have h2 : ((2 ^ n : Nat) : Int) ≤ ((1152921504606846976 : Nat) : Int) := Int.ofNat_le.2 this
  rw [Int.natCast_pow] at h2
  exact h2
theorem partS_bd {N fr j : Nat} {s : Tl} (h : PartS N fr j s) (hN : N ≤ 60) : TlBd s := by
  rcases h with rfl | ⟨h1, h2, h3, h4, h5, _⟩
  · exact ⟨by decide, by decide, by decide, by decide, by decide⟩
  · have := pow_bd (n := N - 1 - fr) (by omega)
    have := Int.pow_pos (n := 2) (m := N - 1 - fr - j) (by decide)
    exact ⟨by omega, by omega, by omega, by omega, by omega⟩
theorem fin2_bd {N i : Nat} {s t : Tl} (h : Fin2 N i s t) (hN : N ≤ 60) : TlBd s := by
  rcases h with ⟨rfl, _⟩ | ⟨h1, h2, h3, h4, h5, _⟩
  · exact ⟨by decide, by decide, by decide, by decide, by decide⟩
  · have := pow_bd (n := N - 1 - i) (by omega)
    exact ⟨by omega, by omega, by omega, by omega, by omega⟩
theorem z0_bd : TlBd z0 := ⟨by decide, by decide, by decide, by decide, by decide⟩

theorem szSlI : (Tryz.prog.info? 30).map (·.size) = some 1 := by kernel_rfl
theorem rdI_cons (x : Int) (xs : List Int) (i : Nat) : rdI (x :: xs) (i + 1) = rdI xs i := rfl
theorem before_ne : ∀ (xs ys : List Int) (i : Nat), i < xs.length → i < ys.length → (∀ j, j < i → rdI xs j = rdI ys j) → rdI xs i ≠ rdI ys i → before xs ys = decide (rdI xs i < rdI ys i)
  | [], _, _, h, _, _, _ => by simp at h
  | _ :: _, [], _, _, h, _, _ => by simp at h
  | x :: xs, y :: ys, 0, _, _, _, hn => by
    rw [before, if_neg (show ¬ x = y from hn)]; rfl
  | x :: xs, y :: ys, i + 1, h1, h2, he, hn => by
    rw [before, if_pos (show x = y from he 0 (by omega))]
    exact before_ne xs ys i (by simpa using h1) (by simpa using h2) (fun j hj => by have := he (j + 1) (by omega); rwa [rdI_cons, rdI_cons] at this) (by rwa [rdI_cons, rdI_cons] at hn)
theorem before_end : ∀ (xs ys : List Int), (∀ j, j < xs.length → j < ys.length → rdI xs j = rdI ys j) → before xs ys = decide (xs.length < ys.length)
  | [], [], _ => rfl
  | [], y :: ys, _ => by rw [before]; simp
  | x :: xs, [], _ => by rw [before]; simp
  | x :: xs, y :: ys, h => by
    rw [before, if_pos (show x = y from h 0 (by simp) (by simp)), before_end xs ys (fun j h1 h2 => by have := h (j + 1) (by simpa using h1) (by simpa using h2); rwa [rdI_cons, rdI_cons] at this)]
    simp

def SameN (xs ys : List Int) (k : Nat) : Prop := ∀ j, j < k → rdI xs j = rdI ys j
attribute [local irreducible] wpQuiet in
set_option maxHeartbeats 2000000 in
set_option maxRecDepth 100000 in
theorem before_spec (A B : Option Addr) (n c m d : Nat) (xs ys : List Int) (w : World) (hn : xs.length = n) (hm : ys.length = m) (hnb : n ≤ 1048576) (hmb : m ≤ 1048576) (ha : SlE i64 w A xs) (hb : SlE i64 w B ys) :
    Calls Tryz.prog 26 #[.slice A n c, .slice B m d] w fun e w' => e = .returned (.bool (before xs ys)) ∧ Below w.heap.size w w' := by
  have HA := Lib.hid ha
  have HB := Lib.hid hb
  have HN := Lib.hid hn
  have HM := Lib.hid hm
  clear ha hb hn hm
  go_enter Tryz.func26, Tryz.ntmps26
  go_wp2
  go_loopw [5] (fun i wr => ∃ k : Nat, k ≤ n ∧ k ≤ m ∧ i = .int .i64 k ∧ SameN xs ys k ∧ Below w.heap.size w wr) (fun i _ => n - (intOf i).toNat)
  case atStart => exact ⟨0, by omega, by omega, rfl, fun j hj => by omega, Below.refl _ _⟩
  case round =>
    obtain ⟨k, hk, hk2, rfl, hs, hbel⟩ := hrel
    have HS := Lib.hid hs
    clear hs
    by_cases h1 : k < n
    · by_cases h2 : k < m
      · obtain ⟨a, rfl, hra⟩ := (HA.out.next hbel).some k (by rw [HN.out]; exact h1)
        obtain ⟨b, rfl, hrb⟩ := (HB.out.next hbel).some k (by rw [HM.out]; exact h2)
        have HRA := Lib.hid hra
        have HRB := Lib.hid hrb
        clear hra hrb
        by_cases he : rdI xs k = rdI ys k
        · have HX := Lib.hid (show SameN xs ys (k + 1) from fun j hj => by
            rcases Nat.lt_succ_iff_lt_or_eq.1 hj with h | rfl
            · exact HS.out j h
            · exact he)
          have HNE := Lib.hid (show (rdI xs k != rdI ys k) = false by rw [he]; simp)
          clear he
          go_wp2
          refine region_below (wr.heap.size) (by kernel_rfl) (by kernel_rfl) ?_
          refine below_run (by kernel_rfl) (.slice (some a) n c) (fun w' hw' => by kernel_rfl) ?_
          refine below_run (by kernel_rfl) (.int .i64 k) (fun w' hw' => by kernel_rfl) ?_
          refine below_run (by kernel_rfl) (.pointer (some (Addr.add a (k * 1)))) (fun w' hw' => exec_index 30 (.tmp 18) (.tmp 19) rfl a n c (by kernel_rfl) .i64 k (by kernel_rfl) h1 2 Tryz.underlying30 1 szI64) ?_
          refine below_run (by kernel_rfl) (.int .i64 (rdI xs k)) (fun w' hw' => exec_load1 2 (.tmp 20) rfl (a.add (k * 1)) (by kernel_rfl) (.int .i64 (rdI xs k)) (by rw [Nat.mul_one]; exact (HRA.out.next hw').atI64 k (by rw [HN.out]; exact h1)) _ Tryz.underlying2 rfl) ?_
          refine below_run (by kernel_rfl) (.slice (some b) m d) (fun w' hw' => by kernel_rfl) ?_
          refine below_run (by kernel_rfl) (.int .i64 k) (fun w' hw' => by kernel_rfl) ?_
          refine below_run (by kernel_rfl) (.pointer (some (Addr.add b (k * 1)))) (fun w' hw' => exec_index 30 (.tmp 22) (.tmp 23) rfl b m d (by kernel_rfl) .i64 k (by kernel_rfl) h2 2 Tryz.underlying30 1 szI64) ?_
          refine below_run (by kernel_rfl) (.int .i64 (rdI ys k)) (fun w' hw' => exec_load1 2 (.tmp 24) rfl (b.add (k * 1)) (by kernel_rfl) (.int .i64 (rdI ys k)) (by rw [Nat.mul_one]; exact (HRB.out.next hw').atI64 k (by rw [HM.out]; exact h2)) _ Tryz.underlying2 rfl) ?_
          refine below_run (by kernel_rfl) (.bool false) (fun w' hw' => Eq.trans (show (execOp _ _).run _ w' = .ok (.value (.bool (rdI xs k != rdI ys k))) w' by kernel_rfl) (by rw [HNE.out])) ?_
          refine wpQuiet_nil ?_
          intro W1 hW1
          simp only [Act.put, List.setIfInBounds_toArray, List.set_cons_succ, List.set_cons_zero]
          have hbel1 := hbel.trans (hW1.mono hbel.size)
          clear hW1
          go_wp2
          go_roundw
          case rel => exact ⟨k + 1, by omega, by omega, by go_num, HX.out, hbel1⟩
          case measure => simp [intOf]; omega
        · have HX := Lib.hid (before_ne xs ys k (by rw [HN.out]; exact h1) (by rw [HM.out]; exact h2) HS.out he)
          have HNE := Lib.hid (show (rdI xs k != rdI ys k) = true by simpa using he)
          clear he
          go_wp2
          refine region_below (wr.heap.size) (by kernel_rfl) (by kernel_rfl) ?_
          refine below_run (by kernel_rfl) (.slice (some a) n c) (fun w' hw' => by kernel_rfl) ?_
          refine below_run (by kernel_rfl) (.int .i64 k) (fun w' hw' => by kernel_rfl) ?_
          refine below_run (by kernel_rfl) (.pointer (some (Addr.add a (k * 1)))) (fun w' hw' => exec_index 30 (.tmp 18) (.tmp 19) rfl a n c (by kernel_rfl) .i64 k (by kernel_rfl) h1 2 Tryz.underlying30 1 szI64) ?_
          refine below_run (by kernel_rfl) (.int .i64 (rdI xs k)) (fun w' hw' => exec_load1 2 (.tmp 20) rfl (a.add (k * 1)) (by kernel_rfl) (.int .i64 (rdI xs k)) (by rw [Nat.mul_one]; exact (HRA.out.next hw').atI64 k (by rw [HN.out]; exact h1)) _ Tryz.underlying2 rfl) ?_
          refine below_run (by kernel_rfl) (.slice (some b) m d) (fun w' hw' => by kernel_rfl) ?_
          refine below_run (by kernel_rfl) (.int .i64 k) (fun w' hw' => by kernel_rfl) ?_
          refine below_run (by kernel_rfl) (.pointer (some (Addr.add b (k * 1)))) (fun w' hw' => exec_index 30 (.tmp 22) (.tmp 23) rfl b m d (by kernel_rfl) .i64 k (by kernel_rfl) h2 2 Tryz.underlying30 1 szI64) ?_
          refine below_run (by kernel_rfl) (.int .i64 (rdI ys k)) (fun w' hw' => exec_load1 2 (.tmp 24) rfl (b.add (k * 1)) (by kernel_rfl) (.int .i64 (rdI ys k)) (by rw [Nat.mul_one]; exact (HRB.out.next hw').atI64 k (by rw [HM.out]; exact h2)) _ Tryz.underlying2 rfl) ?_
          refine below_run (by kernel_rfl) (.bool true) (fun w' hw' => Eq.trans (show (execOp _ _).run _ w' = .ok (.value (.bool (rdI xs k != rdI ys k))) w' by kernel_rfl) (by rw [HNE.out])) ?_
          refine wpQuiet_nil ?_
          intro W1 hW1
          simp only [Act.put, List.setIfInBounds_toArray, List.set_cons_succ, List.set_cons_zero]
          have hbel1 := hbel.trans (hW1.mono hbel.size)
          have HRA := Lib.hid (HRA.out.next hW1)
          have HRB := Lib.hid (HRB.out.next hW1)
          clear hW1
          go_wp2
          refine region_below (W1.heap.size) (by kernel_rfl) (by kernel_rfl) ?_
          refine below_run (by kernel_rfl) (.slice (some a) n c) (fun w' hw' => by kernel_rfl) ?_
          refine below_run (by kernel_rfl) (.int .i64 k) (fun w' hw' => by kernel_rfl) ?_
          refine below_run (by kernel_rfl) (.pointer (some (Addr.add a (k * 1)))) (fun w' hw' => exec_index 30 (.tmp 27) (.tmp 28) rfl a n c (by kernel_rfl) .i64 k (by kernel_rfl) h1 2 Tryz.underlying30 1 szI64) ?_
          refine below_run (by kernel_rfl) (.int .i64 (rdI xs k)) (fun w' hw' => exec_load1 2 (.tmp 29) rfl (a.add (k * 1)) (by kernel_rfl) (.int .i64 (rdI xs k)) (by rw [Nat.mul_one]; exact (HRA.out.next hw').atI64 k (by rw [HN.out]; exact h1)) _ Tryz.underlying2 rfl) ?_
          refine below_run (by kernel_rfl) (.slice (some b) m d) (fun w' hw' => by kernel_rfl) ?_
          refine below_run (by kernel_rfl) (.int .i64 k) (fun w' hw' => by kernel_rfl) ?_
          refine below_run (by kernel_rfl) (.pointer (some (Addr.add b (k * 1)))) (fun w' hw' => exec_index 30 (.tmp 31) (.tmp 32) rfl b m d (by kernel_rfl) .i64 k (by kernel_rfl) h2 2 Tryz.underlying30 1 szI64) ?_
          refine below_run (by kernel_rfl) (.int .i64 (rdI ys k)) (fun w' hw' => exec_load1 2 (.tmp 33) rfl (b.add (k * 1)) (by kernel_rfl) (.int .i64 (rdI ys k)) (by rw [Nat.mul_one]; exact (HRB.out.next hw').atI64 k (by rw [HM.out]; exact h2)) _ Tryz.underlying2 rfl) ?_
          refine below_run (by kernel_rfl) (.bool (decide (rdI xs k < rdI ys k))) (fun w' hw' => by kernel_rfl) ?_
          refine below_run (by kernel_rfl) (.bool (decide (rdI xs k < rdI ys k))) (fun w' hw' => by kernel_rfl) ?_
          refine wpQuiet_nil ?_
          intro W2 hW2
          simp only [Act.put, List.setIfInBounds_toArray, List.set_cons_succ, List.set_cons_zero]
          have hbel2 := hbel1.trans (hW2.mono hbel1.size)
          clear hW2
          go_wp2
          go_ret
          exact ⟨retB HX.out.symm, hbel2⟩
      · have HX := Lib.hid (before_end xs ys (fun j h3 h4 => HS.out j (by rw [HM.out] at h4; omega)))
        rw [HN.out, HM.out] at HX
        go_wp2
        go_ret
        exact ⟨retB HX.out.symm, hbel⟩
    · have HX := Lib.hid (before_end xs ys (fun j h3 h4 => HS.out j (by rw [HN.out] at h3; omega)))
      rw [HN.out, HM.out] at HX
      go_wp2
      go_ret
      exact ⟨retB HX.out.symm, hbel⟩
end Go.Proofs.YtnlnjpdnhdmndaaGreatDoor
