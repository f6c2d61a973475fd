/- The program's SureDark returns what the reference's returns, for every slice of rubbings, which stays as it was, and every number. No condition. -/
import Derived.Test.YtkfjelbcaolepaaRows
import Derived.Test.YtkfjelbcaolepaaOpen
import Derived.Test.YtkfjelbcaolepaaJoinC
import Derived.Test.YtkfjelbcaolepaaOpenR
namespace Go.Proofs.Ytkfjelbcaolepaa.lawExactSureDark
open Go Go.RowKit Go.ChangeShapes Go.WideShapes Go.ChangeAt Go.Proofs.Ytkfjelbcaolepaa
open Go.ChangeMaps (open_string shut_string)
set_option linter.unusedVariables false

set_option maxHeartbeats 1000000 in
set_option maxRecDepth 100000 in
theorem walk (Ar : Option Addr) (cr : Nat) (r : List (List Nat)) (nr : Nat) (need : Int) (w : World) (hr : Rubs r nr) (mr : nr ≤ maxLen) (sr : Sl8 w Ar r) (bn : -9223372036854775808 ≤ need ∧ need ≤ 9223372036854775807) :
    Calls Try.prog 13 #[.slice Ar nr cr, .int .i64 need] w fun e w' => e = .returned (.bool true) ∧ Below w.heap.size w w' := by
  have hm : (sureOut r nr need).1.length = 8 := sureOut_length _ _ _
  have hd : decide ((sureOut r nr need).1 = (sureOut r nr need).1) = true := by simp
  have hne : ((sureOut r nr need).2 != (sureOut r nr need).2) = false := by simp
  have hB := Below.refl w.heap.size w
  go_enter Try.func13, Try.ntmps13
  go_wp2_with fail
  go_at_call 40
  refine (szRubbingS_any Ar cr nr _ _ mr (by omega)).mono ?_
  rintro e w' ⟨⟨v, rfl, hv⟩, rfl⟩
  by_cases hv0 : v < 0
  · clear sr hv
    go_wp2
    go_ret
    exact ⟨rfl, hB⟩
  · have hsm : nr ≤ 1048576 := by have := hv (by omega); omega
    clear hv
    go_wp2_with fail
    go_at_call 42
    refine (toRubbingS_any Ar cr r nr _ hr hsm sr).mono ?_
    rintro e w1 ⟨b1, rfl, _, h1, hb1⟩
    have sr := sr.next hb1
    have hB := below_step hB hb1
    clear hb1
    go_wp2_with fail
    go_at_call 45
    refine (sure_spec _ _ r nr need _ hr (by omega) h1).mono ?_
    rintro e w2 ⟨rfl, hb1⟩
    have sr := sr.next hb1
    have hB := below_step hB hb1
    clear hb1
    go_wp2_with (first
      | (refine wpList_store_new rfl 25 _ _ rfl (R16 (sureOut r nr need).1) rfl rfl 25 _ (by rw [R16_size, hm]; exact szRub) (by rw [R16_size, hm]; rfl) (one_u16 _) ?_; have sr := sr.next (below_one w2 (.cells (R16 (sureOut r nr need).1) 25)); have hv := Blk.new w2 25 ((sureOut r nr need).1.map Go.Proofs.Ytkfjelbcaolepaa.u16); have hB := step_alloc hB (.cells (R16 (sureOut r nr need).1) 25)))
    clear h1
    go_at_call 42
    refine (toRubbingS_any Ar cr r nr _ hr hsm sr).mono ?_
    rintro e w1 ⟨b1, rfl, _, h1, hb1⟩
    have sr := sr.next hb1
    have hv := hv.next hb1
    have hB := below_step hB hb1
    clear hb1
    go_wp2_with fail
    go_at_call 46
    refine (sure_impl _ _ r nr need _ hr (by omega) h1).mono ?_
    rintro e w2 ⟨rfl, hb1⟩
    have sr := sr.next hb1
    have h1 := h1.next hb1
    have hv := hv.next hb1
    have hB := below_step hB hb1
    clear hb1
    go_wp2_with (first
      | (refine wpList_store_new rfl 25 _ _ rfl (R16 (sureOut r nr need).1) rfl rfl 25 _ (by rw [R16_size, hm]; exact szRub) (by rw [R16_size, hm]; rfl) (one_u16 _) ?_; have sr := sr.next (below_one w2 (.cells (R16 (sureOut r nr need).1) 25)); have h1 := h1.next (below_one w2 (.cells (R16 (sureOut r nr need).1) 25)); have hv := hv.alloc (.cells (R16 (sureOut r nr need).1) 25); have hg := Blk.new w2 25 ((sureOut r nr need).1.map Go.Proofs.Ytkfjelbcaolepaa.u16); have hB := step_alloc hB (.cells (R16 (sureOut r nr need).1) 25))
      | (refine wpList_load_row rfl 25 _ rfl _ rfl 25 (R16 (sureOut r nr need).1) _ _ hg Try.underlying25 rfl (by rw [R16_size, hm]; exact szRub) ?_)
      | (refine wpList_load_row rfl 25 _ rfl _ rfl 25 (R16 (sureOut r nr need).1) _ _ hv Try.underlying25 rfl (by rw [R16_size, hm]; exact szRub) ?_)
      | (go_at_call 22; refine (eqRub_any _ _ _ hm hm).mono ?_; rintro e w3 ⟨rfl, hb⟩; have sr := sr.next hb; have h1 := h1.next hb; have hB := below_step hB hb; clear hb))
    go_at_call 42
    refine (toRubbingS_any Ar cr r nr _ hr hsm sr).mono ?_
    rintro e w1 ⟨b3, rfl, _, h3, hb1⟩
    have sr := sr.next hb1
    have h1 := h1.next hb1
    have hB := below_step hB hb1
    clear hb1
    go_wp2_with fail
    go_at_call 44
    refine (eqRubbingS_same _ _ _ _ r nr _ hr hsm h1 h3).mono ?_
    rintro e w4 ⟨rfl, hb1⟩
    have hB := below_step hB hb1
    go_wp2_with fail
    go_ret
    exact ⟨rfl, hB⟩

theorem own : ownKnob Try.prog.godebug = none := by kernel_rfl
theorem laidOut : laidOutB Try.prog = true := by kernel_rfl
set_option maxRecDepth 100000 in
theorem lifted (os : Os) (started : os.Started) (H : Type) (enc : TypeId × Value → H) :
    ReturnsInHanded {} Try.checked os 13 .any (Rows.fnExactSureDarkSpec.pre6 enc Try.prog Try.f13 Rows.fnExactSureDarkRow.domain false) (Rows.fnExactSureDarkSpec.post enc Try.prog Try.f13 false true false false) := by
  refine returnsInHanded_of_change (C := Try.checked) own started (by kernel_rfl) Try.func13
    (ChangeSpec.witness6 (enc := enc) (C := Try.checked) false ⟨#[], #[.slice none 0 0, .int .i64 0], []⟩ 8 (by kernel_rfl) (by kernel_rfl) (by kernel_rfl) (by kernel_rfl)) ?_
  intro W base args ds gs before hval0 hW hcnd _
  have hval : ∀ (j : Nat) t v, Try.f13.params[j]? = some t → args[j]? = some v → Value.okWide Try.prog W .any base t v := hval0
  have hW' := hW
  obtain ⟨p, q, hA0, hV, rfl, hfz, hnd⟩ := hW
  have hA : DataW.TrodAll enc Try.prog W 0 (fun _ => true) true Try.f13.params.toList args.toList ds p := hA0
  rw [Try.params13] at hA hval
  obtain ⟨v0, vs0, d0, ds0, p0, q0, hargs, rfl, rfl, h0, r0⟩ := trodAll_cons hA
  obtain ⟨v1, vs1, d1, ds1, p1, q1, rfl, rfl, rfl, h1, r1⟩ := trodAll_cons r0
  obtain ⟨rfl, rfl, rfl⟩ := trodAll_nil r1
  obtain rfl : args = #[v0, v1] := by cases args; simp_all
  obtain ⟨rfl, rfl⟩ := trodVars_none hV
  have k0 := h0
  have lt0 : ∀ x ∈ p0, x.block < W.heap.size := by obtain ⟨m, hm⟩ := k0; exact DataW.trod_lt m _ _ _ hm
  have k1 := h1
  have lt1 : ∀ x ∈ p1, x.block < W.heap.size := by obtain ⟨m, hm⟩ := k1; exact DataW.trod_lt m _ _ _ hm
  obtain ⟨Ar, cr, r, nr, rfl, hr, mr, sr⟩ := open_rubs Try.underlying44 Try.underlying23 Try.underlying22 (by kernel_rfl) (by kernel_rfl) (hval 0 44 v0 rfl rfl) h0
  obtain ⟨need, rfl, rfl, rfl, wneed⟩ := open_int Try.underlying2 (hval 1 2 v1 rfl rfl) h1
  have bneed := bounds_i64 wneed
  clear hA0 hval0
  refine (walk Ar cr r nr need W hr mr sr bneed).mono fun e W' ⟨he, bel⟩ => ?_
  subst he
  exact ⟨_, rfl, _, _, _, [], _, [], hW', trodAll_mk1 (shut_bool Try.underlying4 _), (trodAll_cons_mk (Below.trod laidOut (by kernel_rfl) (of_decide_eq_true (by kernel_rfl)) k0 bel lt0) (trodAll_cons_mk (Below.trod laidOut (by kernel_rfl) (of_decide_eq_true (by kernel_rfl)) k1 bel lt1) trodAll_mk0)), by first | rfl | simp, bel.frame _, fun h => by cases h⟩

theorem over : Rows.fnExactSureDarkRow.holds Try.pinned (OpenSpec.ofChange Rows.fnExactSureDarkSpec) :=
  OpenClaim.holds_of_wide 13 Try.f13 rfl rfl rfl rfl rfl rfl rfl ⟨rfl, rfl, rfl, rfl, rfl⟩ rfl rfl rfl rfl rfl (by kernel_rfl) Try.func13 (by kernel_rfl)
    (of_decide_eq_true (by kernel_rfl)) (by unfold Func.isWrapper; first | (rw [if_pos (by decide +kernel)]; kernel_rfl) | (rw [if_neg (by decide +kernel)]; exact ⟨rfl, rfl⟩))
    (fun os started H enc _ => lifted os started H enc)

theorem proved : Rows.FnExactSureDarkSaid := over
#print axioms proved
end Go.Proofs.Ytkfjelbcaolepaa.lawExactSureDark
