/- Contracts: the match at a move. -/
import Derived.Test.YtgmlhnmjeelajaaRubG

namespace Go.Proofs.Ytgmlhnmjeelajaa
open Go Go.RowKit
set_option linter.unusedVariables false
set_option linter.unusedSimpArgs false

theorem rdN_movR_lt (r : List Nat) (dx dy : Int) : ∀ k, rdN (movR r dx dy) k < 65536 := gridR_lt _
/-- How many dots are dark in both, if one has been moved. -/
def atN (a b : List Nat) (dx dy : Int) : Nat := countN (andR a (movR b dx dy))

set_option maxRecDepth 100000 in
theorem l07At_any (pa pb : Addr) (a b : List Nat) (dx dy : Int) (w : World) (ha : a.length = 8) (hb : b.length = 8) (xa : ∀ k, rdN a k < 65536) (ra : RowE u16 w pa a) (rb : RowE u16 w pb b) (bx : -5 ≤ dx ∧ dx ≤ 5) (bY : -5 ≤ dy ∧ dy ≤ 5) :
    Calls Try.prog 27 #[.pointer (some pa), .pointer (some pb), .int .i64 dx, .int .i64 dy] w fun e w' => e = .returned (.int .i64 (atN a b dx dy)) ∧ Below w.heap.size w w' := by
  have hm := movR_length b dx dy
  have xm := rdN_movR_lt b dx dy
  have hB := Below.refl w.heap.size w
  have HN := Lib.hid (show countN (andR a (movR b dx dy)) = atN a b dx dy from rfl)
  go_enter Try.func27, Try.ntmps27
  go_wp2_with (first
    | (go_at_call 36; refine (l07Move_any pb b dx dy _ hb rb bx bY).mono ?_; rintro e w1 ⟨rfl, hb1⟩; have ra := ra.next hb1; have hB := below_step hB hb1; clear hb1)
    | (refine wpList_store_new rfl 26 _ _ rfl (R16 (movR b dx dy)) rfl rfl 26 _ (by rw [R16_size, hm]; exact szRub) (by rw [R16_size, hm]; rfl) (one_u16 _) ?_; have ra := ra.next (below_one w1 (.cells (R16 (movR b dx dy)) 26)); have rm := (Blk.new w1 26 ((movR b dx dy).map Go.Proofs.Ytgmlhnmjeelajaa.u16)).row; have hB := step_alloc hB (.cells (R16 (movR b dx dy)) 26))
    | (go_at_call 33; refine (l07Match_any pa _ a _ _ ha hm xa xm ra rm).mono ?_; rintro e w2 ⟨rfl, hb1⟩; have hB := below_step hB hb1; clear hb1))
  go_ret
  exact ⟨ret_int (by rw [HN.out]), hB⟩

/-- What MatchAt returns. -/
def matchOut (a b : List Nat) (dx dy : Int) : Int × Int := if mayMove dx dy then ((atN a b dx dy : Int), 0) else (0, 2)
theorem matchOut_yes {a b : List Nat} {dx dy : Int} (h : mayMove dx dy = true) : matchOut a b dx dy = ((atN a b dx dy : Int), 0) := by simp [matchOut, h]
theorem matchOut_no {a b : List Nat} {dx dy : Int} (h : mayMove dx dy = false) : matchOut a b dx dy = (0, 2) := by simp [matchOut, h]

set_option maxRecDepth 100000 in
theorem matchAt_spec (a b : List Nat) (dx dy : Int) (w : World) (ha : a.length = 8) (hb : b.length = 8) (xa : ∀ k, rdN a k < 65536) :
    Calls Try.prog 17 #[.agg (R16 a), .agg (R16 b), .int .i64 dx, .int .i64 dy] w fun e w' => e = .returned (.tuple #[.int .i64 (matchOut a b dx dy).1, .int .i64 (matchOut a b dx dy).2]) ∧ Below w.heap.size w w' := by
  have hB := below_two w (.cells (R16 a) 26) (.cells (R16 b) 26)
  cases hm : mayMove dx dy
  · have HO := Lib.hid (matchOut_no (a := a) (b := b) hm)
    go_enter Try.func17, Try.ntmps17
    go_wp2_with (go_at_call 34; refine (l07May_any _ _ _).mono ?_; rintro e w' ⟨rfl, rfl⟩)
    rw [HO.out]
    go_ret2
    exact ⟨rfl, hB⟩
  · have HO := Lib.hid (matchOut_yes (a := a) (b := b) hm)
    obtain ⟨bx, bY⟩ := mayMove_iff hm
    have ra : RowE u16 ((w.alloc (.cells (R16 a) 26)).alloc (.cells (R16 b) 26)) ⟨w.heap.size, 0, none⟩ a := ((Blk.new w _ _).alloc _).row
    have rb : RowE u16 ((w.alloc (.cells (R16 a) 26)).alloc (.cells (R16 b) 26)) ⟨w.heap.size + 1, 0, none⟩ b := (Blk.at_new _ _ _ (by simp) _ _ rfl).row
    go_enter Try.func17, Try.ntmps17
    go_wp2_with (first
      | (go_at_call 34; refine (l07May_any _ _ _).mono ?_; rintro e w' ⟨rfl, rfl⟩)
      | (go_at_call 27; refine (l07At_any _ _ a b dx dy _ ha hb xa ra rb bx bY).mono ?_; rintro e w1 ⟨rfl, hb1⟩; have hB := below_step hB hb1; clear hb1))
    rw [HO.out]
    go_ret2
    exact ⟨rfl, hB⟩

set_option maxRecDepth 100000 in
theorem matchAt_impl (a b : List Nat) (dx dy : Int) (w : World) (ha : a.length = 8) (hb : b.length = 8) (xa : ∀ k, rdN a k < 65536) (xb : ∀ k, rdN b k < 65536) :
    Calls Try.prog 21 #[.agg (R16 a), .agg (R16 b), .int .i64 dx, .int .i64 dy] w fun e w' => e = .returned (.tuple #[.int .i64 (matchOut a b dx dy).1, .int .i64 (matchOut a b dx dy).2]) ∧ Below w.heap.size w w' := by
  have hB := below_two w (.cells (R16 a) 26) (.cells (R16 b) 26)
  cases hm : mayMove dx dy
  · have HO := Lib.hid (matchOut_no (a := a) (b := b) hm)
    go_enter Try.func21, Try.ntmps21
    go_wp2_with (go_at_call 35; refine (isMove_any _ _ _).mono ?_; rintro e w' ⟨rfl, rfl⟩)
    rw [HO.out]
    go_ret2
    exact ⟨rfl, hB⟩
  · have HO := Lib.hid (matchOut_yes (a := a) (b := b) hm)
    obtain ⟨bx, bY⟩ := mayMove_iff hm
    have h1 : Blk ((w.alloc (.cells (R16 a) 26)).alloc (.cells (R16 b) 26)) w.heap.size 26 (a.map u16) := (Blk.new w _ _).alloc _
    have h2 : Blk ((w.alloc (.cells (R16 a) 26)).alloc (.cells (R16 b) 26)) (w.heap.size + 1) 26 (b.map u16) := Blk.at_new _ _ _ (by simp) _ _ rfl
    have hl := movR_length b dx dy
    have xm := rdN_movR_lt b dx dy
    go_enter Try.func21, Try.ntmps21
    go_wp2_with (go_at_call 35; refine (isMove_any _ _ _).mono ?_; rintro e w' ⟨rfl, rfl⟩)
    generalize (w.alloc (.cells (R16 a) 26)).alloc (.cells (R16 b) 26) = W at *
    refine region_below (W.heap.size) (by kernel_rfl) (by kernel_rfl) ?_
    refine below_run (by kernel_rfl) (.agg (R16 a)) (fun w' hw' => exec_load_row 26 (.tmp 4) rfl (w.heap.size) (by kernel_rfl) 26 (R16 a) _ _ (h1.next hw') Try.underlying26 rfl (by rw [R16_size, ha]; kernel_rfl)) ?_
    refine below_run (by kernel_rfl) (.agg (R16 b)) (fun w' hw' => exec_load_row 26 (.tmp 5) rfl (w.heap.size + 1) (by kernel_rfl) 26 (R16 b) _ _ (h2.next hw') Try.underlying26 rfl (by rw [R16_size, hb]; kernel_rfl)) ?_
    refine below_run (by kernel_rfl) (.int .i64 dx) (fun w' hw' => by kernel_rfl) ?_
    refine below_run (by kernel_rfl) (.int .i64 dy) (fun w' hw' => by kernel_rfl) ?_
    refine below_call (by kernel_rfl) 25 #[.agg (R16 b), .int .i64 dx, .int .i64 dy] (.agg (R16 (movR b dx dy))) (fun w' => by kernel_rfl) (fun w' hw' => (moved_any b dx dy w' hb xb bx bY).mono fun e w1 ⟨he, hb1⟩ => ⟨he, below_step hw' hb1⟩) ?_
    refine below_call (by kernel_rfl) 15 #[.agg (R16 a), .agg (R16 (movR b dx dy))] (.int .i64 (atN a b dx dy)) (fun w' => by kernel_rfl) (fun w' hw' => (match_impl a (movR b dx dy) w' ha hl xa xm).mono fun e w1 ⟨he, hb1⟩ => ⟨he, below_step hw' hb1⟩) ?_
    refine below_run (by kernel_rfl) (.int .i64 (atN a b dx dy)) (fun w' hw' => by kernel_rfl) ?_
    refine below_run (by kernel_rfl) (.int .i64 0) (fun w' hw' => by kernel_rfl) ?_
    refine wpQuiet_nil ?_
    intro W1 hW1
    simp only [Act.put, List.setIfInBounds_toArray, List.set_cons_succ, List.set_cons_zero]
    have hB := below_step hB hW1
    go_wp2_with fail
    rw [HO.out]
    go_ret2
    exact ⟨rfl, hB⟩
end Go.Proofs.Ytgmlhnmjeelajaa
