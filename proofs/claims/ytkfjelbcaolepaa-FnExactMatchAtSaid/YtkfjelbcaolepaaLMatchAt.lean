/- The program's MatchAt returns what the reference's returns, for all two rubbings and all two numbers. No condition. -/
import Derived.Test.YtkfjelbcaolepaaRows
import Derived.Test.YtkfjelbcaolepaaOpen
import Derived.Test.YtkfjelbcaolepaaRubH
namespace Go.Proofs.Ytkfjelbcaolepaa.lawExactMatchAt
open Go Go.RowKit Go.ChangeShapes Go.WideShapes Go.ChangeAt Go.Proofs.Ytkfjelbcaolepaa
open Go.ChangeMaps (open_string shut_string)
set_option linter.unusedVariables false

set_option maxRecDepth 100000 in
theorem walk (a b : List Nat) (dx dy : Int) (w : World) (ha : a.length = 8) (xa : ∀ k, rdN a k < 65536) (hb : b.length = 8) (xb : ∀ k, rdN b k < 65536) (bx : -9223372036854775808 ≤ dx ∧ dx ≤ 9223372036854775807) (bY : -9223372036854775808 ≤ dy ∧ dy ≤ 9223372036854775807) :
    Calls Try.prog 14 #[.agg (R16 a), .agg (R16 b), .int .i64 dx, .int .i64 dy] w fun e w' => e = .returned (.bool true) ∧ Below w.heap.size w w' := by
  have n1 : ((matchOut a b dx dy).1 != (matchOut a b dx dy).1) = false := by simp
  have n2 : ((matchOut a b dx dy).2 != (matchOut a b dx dy).2) = false := by simp
  have h1 : Blk ((w.alloc (.cells (R16 a) 23)).alloc (.cells (R16 b) 23)) w.heap.size 23 (a.map u16) := (Blk.new w _ _).alloc _
  have h2 : Blk ((w.alloc (.cells (R16 a) 23)).alloc (.cells (R16 b) 23)) (w.heap.size + 1) 23 (b.map u16) := Blk.at_new _ _ _ (by simp) _ _ rfl
  have hB := below_two w (.cells (R16 a) 23) (.cells (R16 b) 23)
  go_enter Try.func14, Try.ntmps14
  go_wp2_with fail
  generalize (w.alloc (.cells (R16 a) 23)).alloc (.cells (R16 b) 23) = W at *
  refine region_below (W.heap.size) (by kernel_rfl) (by kernel_rfl) ?_
  refine below_run (by kernel_rfl) (.agg (R16 a)) (fun w' hw' => exec_load_row 23 (.tmp 4) rfl (w.heap.size) (by kernel_rfl) 23 (R16 a) _ _ (h1.next hw') Try.underlying23 rfl (by rw [R16_size, ha]; kernel_rfl)) ?_
  refine below_call (by kernel_rfl) 18 #[.agg (R16 a)] (.agg (R16 a)) (fun w' => by kernel_rfl) (fun w' hw' => (toRub_any a w' ha).mono fun e w1 ⟨he, hb1⟩ => ⟨he, below_step hw' hb1⟩) ?_
  refine below_run (by kernel_rfl) (.agg (R16 b)) (fun w' hw' => exec_load_row 23 (.tmp 5) rfl (w.heap.size + 1) (by kernel_rfl) 23 (R16 b) _ _ (h2.next hw') Try.underlying23 rfl (by rw [R16_size, hb]; kernel_rfl)) ?_
  refine below_call (by kernel_rfl) 18 #[.agg (R16 b)] (.agg (R16 b)) (fun w' => by kernel_rfl) (fun w' hw' => (toRub_any b w' hb).mono fun e w1 ⟨he, hb1⟩ => ⟨he, below_step hw' hb1⟩) ?_
  refine below_run (by kernel_rfl) (.int .i64 dx) (fun w' hw' => by kernel_rfl) ?_
  refine below_run (by kernel_rfl) (.int .i64 dy) (fun w' hw' => by kernel_rfl) ?_
  refine below_call (by kernel_rfl) 47 #[.agg (R16 a), .agg (R16 b), .int .i64 dx, .int .i64 dy] (.tuple #[.int .i64 (matchOut a b dx dy).1, .int .i64 (matchOut a b dx dy).2]) (fun w' => by kernel_rfl) (fun w' hw' => (matchAt_spec a b dx dy w' ha hb xa).mono fun e w1 ⟨he, hb1⟩ => ⟨he, below_step hw' hb1⟩) ?_
  refine below_run (by kernel_rfl) (.tuple #[.int .i64 (matchOut a b dx dy).1, .int .i64 (matchOut a b dx dy).2]) (fun w' hw' => by kernel_rfl) ?_
  refine below_run (by kernel_rfl) (.int .i64 (matchOut a b dx dy).1) (fun w' hw' => by kernel_rfl) ?_
  refine below_run (by kernel_rfl) (.int .i64 (matchOut a b dx dy).2) (fun w' hw' => by kernel_rfl) ?_
  refine below_run (by kernel_rfl) (.int .i64 (matchOut a b dx dy).1) (fun w' hw' => by kernel_rfl) ?_
  refine below_run (by kernel_rfl) (.int .i64 (matchOut a b dx dy).2) (fun w' hw' => by kernel_rfl) ?_
  refine wpQuiet_nil ?_
  intro W1 hW1
  simp only [Act.put, List.setIfInBounds_toArray, List.set_cons_succ, List.set_cons_zero]
  have h1 := h1.next hW1
  have h2 := h2.next hW1
  have hB := below_step hB hW1
  go_wp2_with fail
  refine region_below (W1.heap.size) (by kernel_rfl) (by kernel_rfl) ?_
  refine below_run (by kernel_rfl) (.agg (R16 a)) (fun w' hw' => exec_load_row 23 (.tmp 4) rfl (w.heap.size) (by kernel_rfl) 23 (R16 a) _ _ (h1.next hw') Try.underlying23 rfl (by rw [R16_size, ha]; kernel_rfl)) ?_
  refine below_call (by kernel_rfl) 18 #[.agg (R16 a)] (.agg (R16 a)) (fun w' => by kernel_rfl) (fun w' hw' => (toRub_any a w' ha).mono fun e w1 ⟨he, hb1⟩ => ⟨he, below_step hw' hb1⟩) ?_
  refine below_run (by kernel_rfl) (.agg (R16 b)) (fun w' hw' => exec_load_row 23 (.tmp 5) rfl (w.heap.size + 1) (by kernel_rfl) 23 (R16 b) _ _ (h2.next hw') Try.underlying23 rfl (by rw [R16_size, hb]; kernel_rfl)) ?_
  refine below_call (by kernel_rfl) 18 #[.agg (R16 b)] (.agg (R16 b)) (fun w' => by kernel_rfl) (fun w' hw' => (toRub_any b w' hb).mono fun e w1 ⟨he, hb1⟩ => ⟨he, below_step hw' hb1⟩) ?_
  refine below_run (by kernel_rfl) (.int .i64 dx) (fun w' hw' => by kernel_rfl) ?_
  refine below_run (by kernel_rfl) (.int .i64 dy) (fun w' hw' => by kernel_rfl) ?_
  refine below_call (by kernel_rfl) 48 #[.agg (R16 a), .agg (R16 b), .int .i64 dx, .int .i64 dy] (.tuple #[.int .i64 (matchOut a b dx dy).1, .int .i64 (matchOut a b dx dy).2]) (fun w' => by kernel_rfl) (fun w' hw' => (matchAt_impl a b dx dy w' ha hb xa xb).mono fun e w1 ⟨he, hb1⟩ => ⟨he, below_step hw' hb1⟩) ?_
  refine below_run (by kernel_rfl) (.tuple #[.int .i64 (matchOut a b dx dy).1, .int .i64 (matchOut a b dx dy).2]) (fun w' hw' => by kernel_rfl) ?_
  refine below_run (by kernel_rfl) (.int .i64 (matchOut a b dx dy).1) (fun w' hw' => by kernel_rfl) ?_
  refine below_run (by kernel_rfl) (.int .i64 (matchOut a b dx dy).2) (fun w' hw' => by kernel_rfl) ?_
  refine below_run (by kernel_rfl) (.int .i64 (matchOut a b dx dy).1) (fun w' hw' => by kernel_rfl) ?_
  refine below_run (by kernel_rfl) (.int .i64 (matchOut a b dx dy).2) (fun w' hw' => by kernel_rfl) ?_
  refine wpQuiet_nil ?_
  intro W2 hW2
  simp only [Act.put, List.setIfInBounds_toArray, List.set_cons_succ, List.set_cons_zero]
  have hB := below_step hB hW2
  go_wp2_with fail
  go_ret
  exact ⟨rfl, hB⟩

theorem own : ownKnob Try.prog.godebug = none := by kernel_rfl
theorem laidOut : laidOutB Try.prog = true := by kernel_rfl
set_option maxRecDepth 100000 in
theorem lifted (os : Os) (started : os.Started) (H : Type) (enc : TypeId × Value → H) :
    ReturnsInHanded {} Try.checked os 14 .any (Rows.fnExactMatchAtSpec.pre6 enc Try.prog Try.f14 Rows.fnExactMatchAtRow.domain false) (Rows.fnExactMatchAtSpec.post enc Try.prog Try.f14 false true false false) := by
  refine returnsInHanded_of_change (C := Try.checked) own started (by kernel_rfl) Try.func14
    (ChangeSpec.witness6 (enc := enc) (C := Try.checked) false ⟨#[], #[.agg (R16 (List.replicate 8 0)), .agg (R16 (List.replicate 8 0)), .int .i64 0, .int .i64 0], []⟩ 8 (by kernel_rfl) (by kernel_rfl) (by kernel_rfl) (by kernel_rfl)) ?_
  intro W base args ds gs before hval0 hW hcnd _
  have hval : ∀ (j : Nat) t v, Try.f14.params[j]? = some t → args[j]? = some v → Value.okWide Try.prog W .any base t v := hval0
  have hW' := hW
  obtain ⟨p, q, hA0, hV, rfl, hfz, hnd⟩ := hW
  have hA : DataW.TrodAll enc Try.prog W 0 (fun _ => true) true Try.f14.params.toList args.toList ds p := hA0
  rw [Try.params14] at hA hval
  obtain ⟨v0, vs0, d0, ds0, p0, q0, hargs, rfl, rfl, h0, r0⟩ := trodAll_cons hA
  obtain ⟨v1, vs1, d1, ds1, p1, q1, rfl, rfl, rfl, h1, r1⟩ := trodAll_cons r0
  obtain ⟨v2, vs2, d2, ds2, p2, q2, rfl, rfl, rfl, h2, r2⟩ := trodAll_cons r1
  obtain ⟨v3, vs3, d3, ds3, p3, q3, rfl, rfl, rfl, h3, r3⟩ := trodAll_cons r2
  obtain ⟨rfl, rfl, rfl⟩ := trodAll_nil r3
  obtain rfl : args = #[v0, v1, v2, v3] := by cases args; simp_all
  obtain ⟨rfl, rfl⟩ := trodVars_none hV
  have k0 := h0
  have lt0 : ∀ x ∈ p0, x.block < W.heap.size := by obtain ⟨m, hm⟩ := k0; exact DataW.trod_lt m _ _ _ hm
  have k1 := h1
  have lt1 : ∀ x ∈ p1, x.block < W.heap.size := by obtain ⟨m, hm⟩ := k1; exact DataW.trod_lt m _ _ _ hm
  have k2 := h2
  have lt2 : ∀ x ∈ p2, x.block < W.heap.size := by obtain ⟨m, hm⟩ := k2; exact DataW.trod_lt m _ _ _ hm
  have k3 := h3
  have lt3 : ∀ x ∈ p3, x.block < W.heap.size := by obtain ⟨m, hm⟩ := k3; exact DataW.trod_lt m _ _ _ hm
  obtain ⟨a, rfl, ha, xa⟩ := open_rub Try.underlying23 Try.underlying22 (by kernel_rfl) (by kernel_rfl) (hval 0 23 v0 rfl rfl) h0
  obtain ⟨b, rfl, hb, xb⟩ := open_rub Try.underlying23 Try.underlying22 (by kernel_rfl) (by kernel_rfl) (hval 1 23 v1 rfl rfl) h1
  obtain ⟨dx, rfl, rfl, rfl, wdx⟩ := open_int Try.underlying2 (hval 2 2 v2 rfl rfl) h2
  have bdx := bounds_i64 wdx
  obtain ⟨dy, rfl, rfl, rfl, wdy⟩ := open_int Try.underlying2 (hval 3 2 v3 rfl rfl) h3
  have bdy := bounds_i64 wdy
  clear hA0 hval0
  refine (walk a b dx dy W ha xa hb xb bdx bdy).mono fun e W' ⟨he, bel⟩ => ?_
  subst he
  exact ⟨_, rfl, _, _, _, [], _, [], hW', trodAll_mk1 (shut_bool Try.underlying4 _), (trodAll_cons_mk (Below.trod laidOut (by kernel_rfl) (of_decide_eq_true (by kernel_rfl)) k0 bel lt0) (trodAll_cons_mk (Below.trod laidOut (by kernel_rfl) (of_decide_eq_true (by kernel_rfl)) k1 bel lt1) (trodAll_cons_mk (Below.trod laidOut (by kernel_rfl) (of_decide_eq_true (by kernel_rfl)) k2 bel lt2) (trodAll_cons_mk (Below.trod laidOut (by kernel_rfl) (of_decide_eq_true (by kernel_rfl)) k3 bel lt3) trodAll_mk0)))), by first | rfl | simp, bel.frame _, fun h => by cases h⟩

theorem over : Rows.fnExactMatchAtRow.holds Try.pinned (OpenSpec.ofChange Rows.fnExactMatchAtSpec) :=
  OpenClaim.holds_of_wide 14 Try.f14 rfl rfl rfl rfl rfl rfl rfl ⟨rfl, rfl, rfl, rfl, rfl⟩ rfl rfl rfl rfl rfl (by kernel_rfl) Try.func14 (by kernel_rfl)
    (of_decide_eq_true (by kernel_rfl)) (by unfold Func.isWrapper; first | (rw [if_pos (by decide +kernel)]; kernel_rfl) | (rw [if_neg (by decide +kernel)]; exact ⟨rfl, rfl⟩))
    (fun os started H enc _ => lifted os started H enc)

theorem proved : Rows.FnExactMatchAtSaid := over
#print axioms proved
end Go.Proofs.Ytkfjelbcaolepaa.lawExactMatchAt
