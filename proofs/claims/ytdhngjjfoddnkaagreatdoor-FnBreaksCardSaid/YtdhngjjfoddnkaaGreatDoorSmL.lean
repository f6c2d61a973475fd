/- Contracts: whether two lists of numbers are the same. -/
import Derived.Test.YtdhngjjfoddnkaaGreatDoorGF
import Derived.BigRegion
namespace Go.Proofs.YtdhngjjfoddnkaaGreatDoor
open Go Go.RowKit
set_option linter.unusedVariables false
set_option linter.unusedSimpArgs false

theorem szI64c : (Tryz.prog.info? 2).map (·.size) = some 1 := by kernel_rfl
theorem list_eq_of {xs ys : List Int} (hl : xs.length = ys.length) (h : ∀ i, i < xs.length → rdI xs i = rdI ys i) : xs = ys := by
  refine List.ext_getElem hl fun i h1 h2 => ?_
  have := h i h1
  unfold rdI at this
  simpa [List.getD_eq_getElem?_getD, List.getElem?_eq_getElem h1, List.getElem?_eq_getElem h2] using this
attribute [local irreducible] wpQuiet in
set_option maxHeartbeats 1000000 in
set_option maxRecDepth 100000 in
theorem l00Same_any (A B : Option Addr) (c d : Nat) (xs ys : List Int) (n m : Nat) (w : World) (hx : xs.length = n) (hy : ys.length = m) (hn : n ≤ 1048576) (hm : m ≤ 1048576) (ha : SlE i64 w A xs) (hb : SlE i64 w B ys) :
    Calls Tryz.prog 39 #[.slice A n c, .slice B m d] w fun e w' => e = .returned (.bool (decide (xs = ys))) ∧ Below w.heap.size w w' := by
  have HA := Lib.hid ha
  have HB := Lib.hid hb
  have HX := Lib.hid hx
  have HY := Lib.hid hy
  clear ha hb hx hy
  by_cases hnm : n = m
  · subst hnm
    go_enter Tryz.func39, Tryz.ntmps39
    repeat ((with_reducible fail_if_success (show Code.wp _ (Code.loop _) _ _ _)); first | go_values | go_skip | go_guarded | go_step | go_upon)
    go_loopw [5] (fun i wr => ∃ k : Nat, k ≤ n ∧ i = .int .i64 k ∧ (∀ j, j < k → rdI xs j = rdI ys j) ∧ Below w.heap.size w wr) (fun i _ => n - (intOf i).toNat)
    case atStart => exact ⟨0, by omega, rfl, fun j hj => by omega, Below.refl _ _⟩
    case round =>
      obtain ⟨k, hk, rfl, hs, hbel⟩ := hrel
      have HS := Lib.hid hs
      have HBL := Lib.hid hbel
      clear hs hbel
      by_cases hlt : k < n
      · obtain ⟨a, rfl, ra⟩ := (HA.out.next HBL.out).some k (by rw [HX.out]; exact hlt)
        obtain ⟨b, rfl, rb⟩ := (HB.out.next HBL.out).some k (by rw [HY.out]; exact hlt)
        have RA := Lib.hid ra
        have RB := Lib.hid rb
        clear ra rb
        cases he : (rdI xs k != rdI ys k)
        all_goals
          repeat ((with_reducible fail_if_success (show Code.wp _ (Code.region 6 _ _) _ _ _)); first | go_values | go_skip | go_guarded | go_step | go_upon)
        · skip
          refine region_below (wr.heap.size) (by kernel_rfl) (by kernel_rfl) ?_
          refine below_run (by kernel_rfl) (.slice (some a) n c) (fun w' hw' => by kernel_rfl) ?_
          refine below_run (by kernel_rfl) (.int .i64 k) (fun w' hw' => by kernel_rfl) ?_
          refine below_run (by kernel_rfl) (.pointer (some (Addr.add a (k * 1)))) (fun w' hw' => exec_index 32 (.tmp 17) (.tmp 18) rfl a n c (by kernel_rfl) .i64 k (by kernel_rfl) hlt 2 Tryz.underlying32 1 szI64c) ?_
          refine below_run (by kernel_rfl) (.int .i64 (rdI xs k)) (fun w' hw' => exec_load1 2 (.tmp 19) rfl (a.add (k * 1)) (by kernel_rfl) (.int .i64 (rdI xs k)) (by rw [Nat.mul_one]; exact (RA.out.next hw').atI64 k (by rw [HX.out]; exact hlt)) _ Tryz.underlying2 rfl) ?_
          refine below_run (by kernel_rfl) (.slice (some b) n d) (fun w' hw' => by kernel_rfl) ?_
          refine below_run (by kernel_rfl) (.int .i64 k) (fun w' hw' => by kernel_rfl) ?_
          refine below_run (by kernel_rfl) (.pointer (some (Addr.add b (k * 1)))) (fun w' hw' => exec_index 32 (.tmp 21) (.tmp 22) rfl b n d (by kernel_rfl) .i64 k (by kernel_rfl) hlt 2 Tryz.underlying32 1 szI64c) ?_
          refine below_run (by kernel_rfl) (.int .i64 (rdI ys k)) (fun w' hw' => exec_load1 2 (.tmp 23) rfl (b.add (k * 1)) (by kernel_rfl) (.int .i64 (rdI ys k)) (by rw [Nat.mul_one]; exact (RB.out.next hw').atI64 k (by rw [HY.out]; exact hlt)) _ Tryz.underlying2 rfl) ?_
          refine below_run (by kernel_rfl) (.bool false) (fun w' hw' => Eq.trans (show (execOp _ _).run _ w' = .ok (.value (.bool (rdI xs k != rdI ys k))) w' by kernel_rfl) (by rw [he])) ?_
          refine wpQuiet_nil ?_
          intro W2 hW2
          simp only [Act.put, List.setIfInBounds_toArray, List.set_cons_succ, List.set_cons_zero]
          repeat (first | go_values | go_skip | go_guarded | go_step | go_upon)
          go_roundw
          case rel => exact ⟨k + 1, by omega, by go_num, fun j hj => by
            by_cases e : j = k
            · subst e; simpa using he
            · exact HS.out j (by omega), below_step HBL.out hW2⟩
          case measure => simp [intOf]; omega
        · skip
          refine region_below (wr.heap.size) (by kernel_rfl) (by kernel_rfl) ?_
          refine below_run (by kernel_rfl) (.slice (some a) n c) (fun w' hw' => by kernel_rfl) ?_
          refine below_run (by kernel_rfl) (.int .i64 k) (fun w' hw' => by kernel_rfl) ?_
          refine below_run (by kernel_rfl) (.pointer (some (Addr.add a (k * 1)))) (fun w' hw' => exec_index 32 (.tmp 17) (.tmp 18) rfl a n c (by kernel_rfl) .i64 k (by kernel_rfl) hlt 2 Tryz.underlying32 1 szI64c) ?_
          refine below_run (by kernel_rfl) (.int .i64 (rdI xs k)) (fun w' hw' => exec_load1 2 (.tmp 19) rfl (a.add (k * 1)) (by kernel_rfl) (.int .i64 (rdI xs k)) (by rw [Nat.mul_one]; exact (RA.out.next hw').atI64 k (by rw [HX.out]; exact hlt)) _ Tryz.underlying2 rfl) ?_
          refine below_run (by kernel_rfl) (.slice (some b) n d) (fun w' hw' => by kernel_rfl) ?_
          refine below_run (by kernel_rfl) (.int .i64 k) (fun w' hw' => by kernel_rfl) ?_
          refine below_run (by kernel_rfl) (.pointer (some (Addr.add b (k * 1)))) (fun w' hw' => exec_index 32 (.tmp 21) (.tmp 22) rfl b n d (by kernel_rfl) .i64 k (by kernel_rfl) hlt 2 Tryz.underlying32 1 szI64c) ?_
          refine below_run (by kernel_rfl) (.int .i64 (rdI ys k)) (fun w' hw' => exec_load1 2 (.tmp 23) rfl (b.add (k * 1)) (by kernel_rfl) (.int .i64 (rdI ys k)) (by rw [Nat.mul_one]; exact (RB.out.next hw').atI64 k (by rw [HY.out]; exact hlt)) _ Tryz.underlying2 rfl) ?_
          refine below_run (by kernel_rfl) (.bool true) (fun w' hw' => Eq.trans (show (execOp _ _).run _ w' = .ok (.value (.bool (rdI xs k != rdI ys k))) w' by kernel_rfl) (by rw [he])) ?_
          refine wpQuiet_nil ?_
          intro W2 hW2
          simp only [Act.put, List.setIfInBounds_toArray, List.set_cons_succ, List.set_cons_zero]
          repeat (first | go_values | go_skip | go_guarded | go_step | go_upon)
          go_ret
          have hne : ¬ xs = ys := fun e => by rw [e] at he; simp at he
          exact ⟨by rw [decide_eq_false hne]; rfl, below_step HBL.out hW2⟩
      · obtain rfl : k = n := by omega
        have he : xs = ys := list_eq_of (by rw [HX.out, HY.out]) (by rw [HX.out]; exact HS.out)
        repeat (first | go_values | go_skip | go_guarded | go_step | go_upon)
        go_ret
        exact ⟨by rw [decide_eq_true he]; rfl, HBL.out⟩
  · have hni : ((n : Int) != (m : Int)) = true := by simp; omega
    have hne : ¬ xs = ys := fun e => hnm (by rw [← HX.out, ← HY.out, e])
    go_enter Tryz.func39, Tryz.ntmps39
    repeat (first | go_values | go_skip | go_guarded | go_step | go_upon)
    go_ret
    exact ⟨by rw [decide_eq_false hne]; rfl, Below.refl _ _⟩
end Go.Proofs.YtdhngjjfoddnkaaGreatDoor
