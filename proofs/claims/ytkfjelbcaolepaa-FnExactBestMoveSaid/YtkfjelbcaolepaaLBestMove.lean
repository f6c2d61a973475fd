/- The program's BestMove returns what the reference's returns, for all two rubbings. No condition. -/
import Derived.Test.YtkfjelbcaolepaaRows
import Derived.Test.YtkfjelbcaolepaaOpen
import Derived.Test.YtkfjelbcaolepaaRubJ
namespace Go.Proofs.Ytkfjelbcaolepaa.lawExactBestMove
open Go Go.RowKit Go.ChangeShapes Go.WideShapes Go.ChangeAt Go.Proofs.Ytkfjelbcaolepaa
open Go.ChangeMaps (open_string shut_string)
set_option linter.unusedVariables false

set_option maxRecDepth 100000 in
theorem walk (a b : List Nat)  (w : World) (ha : a.length = 8) (xa : ∀ k, rdN a k < 65536) (hb : b.length = 8) (xb : ∀ k, rdN b k < 65536)  :
    Calls Try.prog 15 #[.agg (R16 a), .agg (R16 b)] w fun e w' => e = .returned (.bool true) ∧ Below w.heap.size w w' := by
  have n1 : (bestX a b != bestX a b) = false := by simp
  have n2 : (bestY a b != bestY a b) = false := by simp
  have n3 : (bestM a b != bestM a b) = false := by simp
  have h1 : Blk ((w.alloc (.cells (R16 a) 23)).alloc (.cells (R16 b) 23)) w.heap.size 23 (a.map u16) := (Blk.new w _ _).alloc _
  have h2 : Blk ((w.alloc (.cells (R16 a) 23)).alloc (.cells (R16 b) 23)) (w.heap.size + 1) 23 (b.map u16) := Blk.at_new _ _ _ (by simp) _ _ rfl
  have hB := below_two w (.cells (R16 a) 23) (.cells (R16 b) 23)
  go_enter Try.func15, Try.ntmps15
  go_wp2_with fail
  generalize (w.alloc (.cells (R16 a) 23)).alloc (.cells (R16 b) 23) = W at *
  refine region_below (W.heap.size) (by kernel_rfl) (by kernel_rfl) ?_
  refine below_run (by kernel_rfl) (.agg (R16 a)) (fun w' hw' => exec_load_row 23 (.tmp 2) rfl (w.heap.size) (by kernel_rfl) 23 (R16 a) _ _ (h1.next hw') Try.underlying23 rfl (by rw [R16_size, ha]; kernel_rfl)) ?_
  refine below_call (by kernel_rfl) 18 #[.agg (R16 a)] (.agg (R16 a)) (fun w' => by kernel_rfl) (fun w' hw' => (toRub_any a w' ha).mono fun e w1 ⟨he, hb1⟩ => ⟨he, below_step hw' hb1⟩) ?_
  refine below_run (by kernel_rfl) (.agg (R16 b)) (fun w' hw' => exec_load_row 23 (.tmp 3) rfl (w.heap.size + 1) (by kernel_rfl) 23 (R16 b) _ _ (h2.next hw') Try.underlying23 rfl (by rw [R16_size, hb]; kernel_rfl)) ?_
  refine below_call (by kernel_rfl) 18 #[.agg (R16 b)] (.agg (R16 b)) (fun w' => by kernel_rfl) (fun w' hw' => (toRub_any b w' hb).mono fun e w1 ⟨he, hb1⟩ => ⟨he, below_step hw' hb1⟩) ?_
  refine below_call (by kernel_rfl) 49 #[.agg (R16 a), .agg (R16 b)] (.tuple #[.int .i64 (bestX a b), .int .i64 (bestY a b), .int .i64 (bestM a b)]) (fun w' => by kernel_rfl) (fun w' hw' => (bestMove_spec a b w' ha hb xa).mono fun e w1 ⟨he, hb1⟩ => ⟨he, below_step hw' hb1⟩) ?_
  refine below_run (by kernel_rfl) (.tuple #[.int .i64 (bestX a b), .int .i64 (bestY a b), .int .i64 (bestM a b)]) (fun w' hw' => by kernel_rfl) ?_
  refine below_run (by kernel_rfl) (.int .i64 (bestX a b)) (fun w' hw' => by kernel_rfl) ?_
  refine below_run (by kernel_rfl) (.int .i64 (bestY a b)) (fun w' hw' => by kernel_rfl) ?_
  refine below_run (by kernel_rfl) (.int .i64 (bestM a b)) (fun w' hw' => by kernel_rfl) ?_
  refine below_run (by kernel_rfl) (.int .i64 (bestX a b)) (fun w' hw' => by kernel_rfl) ?_
  refine below_run (by kernel_rfl) (.int .i64 (bestY a b)) (fun w' hw' => by kernel_rfl) ?_
  refine below_run (by kernel_rfl) (.int .i64 (bestM a b)) (fun w' hw' => by kernel_rfl) ?_
  refine wpQuiet_nil ?_
  intro W1 hW1
  simp only [Act.put, List.setIfInBounds_toArray, List.set_cons_succ, List.set_cons_zero]
  have h1 := h1.next hW1
  have h2 := h2.next hW1
  have hB := below_step hB hW1
  go_wp2_with fail
  refine region_below (W1.heap.size) (by kernel_rfl) (by kernel_rfl) ?_
  refine below_run (by kernel_rfl) (.agg (R16 a)) (fun w' hw' => exec_load_row 23 (.tmp 2) rfl (w.heap.size) (by kernel_rfl) 23 (R16 a) _ _ (h1.next hw') Try.underlying23 rfl (by rw [R16_size, ha]; kernel_rfl)) ?_
  refine below_call (by kernel_rfl) 18 #[.agg (R16 a)] (.agg (R16 a)) (fun w' => by kernel_rfl) (fun w' hw' => (toRub_any a w' ha).mono fun e w1 ⟨he, hb1⟩ => ⟨he, below_step hw' hb1⟩) ?_
  refine below_run (by kernel_rfl) (.agg (R16 b)) (fun w' hw' => exec_load_row 23 (.tmp 3) rfl (w.heap.size + 1) (by kernel_rfl) 23 (R16 b) _ _ (h2.next hw') Try.underlying23 rfl (by rw [R16_size, hb]; kernel_rfl)) ?_
  refine below_call (by kernel_rfl) 18 #[.agg (R16 b)] (.agg (R16 b)) (fun w' => by kernel_rfl) (fun w' hw' => (toRub_any b w' hb).mono fun e w1 ⟨he, hb1⟩ => ⟨he, below_step hw' hb1⟩) ?_
  refine below_call (by kernel_rfl) 50 #[.agg (R16 a), .agg (R16 b)] (.tuple #[.int .i64 (bestX a b), .int .i64 (bestY a b), .int .i64 (bestM a b)]) (fun w' => by kernel_rfl) (fun w' hw' => (bestMove_impl a b w' ha hb xa xb).mono fun e w1 ⟨he, hb1⟩ => ⟨he, below_step hw' hb1⟩) ?_
  refine below_run (by kernel_rfl) (.tuple #[.int .i64 (bestX a b), .int .i64 (bestY a b), .int .i64 (bestM a b)]) (fun w' hw' => by kernel_rfl) ?_
  refine below_run (by kernel_rfl) (.int .i64 (bestX a b)) (fun w' hw' => by kernel_rfl) ?_
  refine below_run (by kernel_rfl) (.int .i64 (bestY a b)) (fun w' hw' => by kernel_rfl) ?_
  refine below_run (by kernel_rfl) (.int .i64 (bestM a b)) (fun w' hw' => by kernel_rfl) ?_
  refine below_run (by kernel_rfl) (.int .i64 (bestX a b)) (fun w' hw' => by kernel_rfl) ?_
  refine below_run (by kernel_rfl) (.int .i64 (bestY a b)) (fun w' hw' => by kernel_rfl) ?_
  refine below_run (by kernel_rfl) (.int .i64 (bestM a b)) (fun w' hw' => by kernel_rfl) ?_
  refine wpQuiet_nil ?_
  intro W2 hW2
  simp only [Act.put, List.setIfInBounds_toArray, List.set_cons_succ, List.set_cons_zero]
  have hB := below_step hB hW2
  go_wp2_with fail
  go_ret
  exact ⟨rfl, hB⟩

theorem own : ownKnob Try.prog.godebug = none := by kernel_rfl
theorem laidOut : laidOutB Try.prog = true := by kernel_rfl
set_option maxRecDepth 100000 in
theorem lifted (os : Os) (started : os.Started) (H : Type) (enc : TypeId × Value → H) :
    ReturnsInHanded {} Try.checked os 15 .any (Rows.fnExactBestMoveSpec.pre6 enc Try.prog Try.f15 Rows.fnExactBestMoveRow.domain false) (Rows.fnExactBestMoveSpec.post enc Try.prog Try.f15 false true false false) := by
  refine returnsInHanded_of_change (C := Try.checked) own started (by kernel_rfl) Try.func15
    (ChangeSpec.witness6 (enc := enc) (C := Try.checked) false ⟨#[], #[.agg (R16 (List.replicate 8 0)), .agg (R16 (List.replicate 8 0))], []⟩ 8 (by kernel_rfl) (by kernel_rfl) (by kernel_rfl) (by kernel_rfl)) ?_
  intro W base args ds gs before hval0 hW hcnd _
  have hval : ∀ (j : Nat) t v, Try.f15.params[j]? = some t → args[j]? = some v → Value.okWide Try.prog W .any base t v := hval0
  have hW' := hW
  obtain ⟨p, q, hA0, hV, rfl, hfz, hnd⟩ := hW
  have hA : DataW.TrodAll enc Try.prog W 0 (fun _ => true) true Try.f15.params.toList args.toList ds p := hA0
  rw [Try.params15] at hA hval
  obtain ⟨v0, vs0, d0, ds0, p0, q0, hargs, rfl, rfl, h0, r0⟩ := trodAll_cons hA
  obtain ⟨v1, vs1, d1, ds1, p1, q1, rfl, rfl, rfl, h1, r1⟩ := trodAll_cons r0
  obtain ⟨rfl, rfl, rfl⟩ := trodAll_nil r1
  obtain rfl : args = #[v0, v1] := by cases args; simp_all
  obtain ⟨rfl, rfl⟩ := trodVars_none hV
  have k0 := h0
  have lt0 : ∀ x ∈ p0, x.block < W.heap.size := by obtain ⟨m, hm⟩ := k0; exact DataW.trod_lt m _ _ _ hm
  have k1 := h1
  have lt1 : ∀ x ∈ p1, x.block < W.heap.size := by obtain ⟨m, hm⟩ := k1; exact DataW.trod_lt m _ _ _ hm
  obtain ⟨a, rfl, ha, xa⟩ := open_rub Try.underlying23 Try.underlying22 (by kernel_rfl) (by kernel_rfl) (hval 0 23 v0 rfl rfl) h0
  obtain ⟨b, rfl, hb, xb⟩ := open_rub Try.underlying23 Try.underlying22 (by kernel_rfl) (by kernel_rfl) (hval 1 23 v1 rfl rfl) h1
  clear hA0 hval0
  refine (walk a b W ha xa hb xb).mono fun e W' ⟨he, bel⟩ => ?_
  subst he
  exact ⟨_, rfl, _, _, _, [], _, [], hW', trodAll_mk1 (shut_bool Try.underlying4 _), (trodAll_cons_mk (Below.trod laidOut (by kernel_rfl) (of_decide_eq_true (by kernel_rfl)) k0 bel lt0) (trodAll_cons_mk (Below.trod laidOut (by kernel_rfl) (of_decide_eq_true (by kernel_rfl)) k1 bel lt1) trodAll_mk0)), by first | rfl | simp, bel.frame _, fun h => by cases h⟩

theorem over : Rows.fnExactBestMoveRow.holds Try.pinned (OpenSpec.ofChange Rows.fnExactBestMoveSpec) :=
  OpenClaim.holds_of_wide 15 Try.f15 rfl rfl rfl rfl rfl rfl rfl ⟨rfl, rfl, rfl, rfl, rfl⟩ rfl rfl rfl rfl rfl (by kernel_rfl) Try.func15 (by kernel_rfl)
    (of_decide_eq_true (by kernel_rfl)) (by unfold Func.isWrapper; first | (rw [if_pos (by decide +kernel)]; kernel_rfl) | (rw [if_neg (by decide +kernel)]; exact ⟨rfl, rfl⟩))
    (fun os started H enc _ => lifted os started H enc)

theorem proved : Rows.FnExactBestMoveSaid := over
#print axioms proved
end Go.Proofs.Ytkfjelbcaolepaa.lawExactBestMove
