/- The program's ReadRubbing returns what the reference's returns, for every text. No condition. -/
import Derived.Test.YtkfjelbcaolepaaRows
import Derived.Test.YtkfjelbcaolepaaOpen
import Derived.Test.YtkfjelbcaolepaaReadS
import Derived.Test.YtkfjelbcaolepaaReadI
namespace Go.Proofs.Ytkfjelbcaolepaa.lawExactReadRubbing
open Go Go.RowKit Go.ChangeShapes Go.WideShapes Go.ChangeAt Go.Proofs.Ytkfjelbcaolepaa
open Go.ChangeMaps (open_string shut_string)
set_option linter.unusedVariables false

set_option maxHeartbeats 1000000 in
set_option maxRecDepth 100000 in
theorem walk (s : ByteArray) (w : World) (hs : s.size ≤ maxLen) :
    Calls Try.prog 9 #[.string s] w fun e w' => e = .returned (.bool true) ∧ Below w.heap.size w w' := by
  unfold maxLen at hs
  have hm : (readOut s).1.length = 8 := readOut_length s
  have hd : decide ((readOut s).1 = (readOut s).1) = true := by simp
  have hne : ((readOut s).2 != (readOut s).2) = false := by simp
  have hB := Below.refl w.heap.size w
  by_cases l1 : (s.size : Int) > 1048576
  · go_enter Try.func9, Try.ntmps9
    go_wp2
    go_ret
    exact ⟨rfl, hB⟩
  · go_enter Try.func9, Try.ntmps9
    go_wp2_with fail
    go_at_call 31
    refine (readRub_spec s _ (by omega)).mono ?_
    rintro e w2 ⟨rfl, hb1⟩
    have hB := below_step hB hb1
    clear hb1
    go_wp2_with (first
      | (refine wpList_store_new rfl 25 _ _ rfl (R16 (readOut s).1) rfl rfl 25 _ (by rw [R16_size, hm]; exact szRub) (by rw [R16_size, hm]; rfl) (one_u16 _) ?_; have hv := Blk.new w2 25 ((readOut s).1.map Go.Proofs.Ytkfjelbcaolepaa.u16); have hB := step_alloc hB (.cells (R16 (readOut s).1) 25)))
    go_at_call 32
    refine (readRub_impl s _ (by omega)).mono ?_
    rintro e w2 ⟨rfl, hb1⟩
    have hv := hv.next hb1
    have hB := below_step hB hb1
    clear hb1
    go_wp2_with (first
      | (refine wpList_store_new rfl 25 _ _ rfl (R16 (readOut s).1) rfl rfl 25 _ (by rw [R16_size, hm]; exact szRub) (by rw [R16_size, hm]; rfl) (one_u16 _) ?_; have hv := hv.alloc (.cells (R16 (readOut s).1) 25); have hg := Blk.new w2 25 ((readOut s).1.map Go.Proofs.Ytkfjelbcaolepaa.u16); have hB := step_alloc hB (.cells (R16 (readOut s).1) 25))
      | (refine wpList_load_row rfl 25 _ rfl _ rfl 25 (R16 (readOut s).1) _ _ hg Try.underlying25 rfl (by rw [R16_size, hm]; exact szRub) ?_)
      | (refine wpList_load_row rfl 25 _ rfl _ rfl 25 (R16 (readOut s).1) _ _ hv Try.underlying25 rfl (by rw [R16_size, hm]; exact szRub) ?_)
      | (go_at_call 22; refine (eqRub_any _ _ _ hm hm).mono ?_; rintro e w3 ⟨rfl, hb⟩; have hB := below_step hB hb; clear hb))
    go_ret
    exact ⟨rfl, hB⟩

theorem own : ownKnob Try.prog.godebug = none := by kernel_rfl
theorem laidOut : laidOutB Try.prog = true := by kernel_rfl
set_option maxRecDepth 100000 in
theorem lifted (os : Os) (started : os.Started) (H : Type) (enc : TypeId × Value → H) :
    ReturnsInHanded {} Try.checked os 9 .any (Rows.fnExactReadRubbingSpec.pre6 enc Try.prog Try.f9 Rows.fnExactReadRubbingRow.domain false) (Rows.fnExactReadRubbingSpec.post enc Try.prog Try.f9 false true false false) := by
  refine returnsInHanded_of_change (C := Try.checked) own started (by kernel_rfl) Try.func9
    (ChangeSpec.witness6 (enc := enc) (C := Try.checked) false ⟨#[], #[.string ⟨#[]⟩], []⟩ 8 (by kernel_rfl) (by kernel_rfl) (by kernel_rfl) (by kernel_rfl)) ?_
  intro W base args ds gs before hval0 hW hcnd _
  have hval : ∀ (j : Nat) t v, Try.f9.params[j]? = some t → args[j]? = some v → Value.okWide Try.prog W .any base t v := hval0
  have hW' := hW
  obtain ⟨p, q, hA0, hV, rfl, hfz, hnd⟩ := hW
  have hA : DataW.TrodAll enc Try.prog W 0 (fun _ => true) true Try.f9.params.toList args.toList ds p := hA0
  rw [Try.params9] at hA hval
  obtain ⟨v0, vs0, d0, ds0, p0, q0, hargs, rfl, rfl, h0, r0⟩ := trodAll_cons hA
  obtain ⟨rfl, rfl, rfl⟩ := trodAll_nil r0
  obtain rfl : args = #[v0] := by cases args; simp_all
  obtain ⟨rfl, rfl⟩ := trodVars_none hV
  have k0 := h0
  have lt0 : ∀ x ∈ p0, x.block < W.heap.size := by obtain ⟨m, hm⟩ := k0; exact DataW.trod_lt m _ _ _ hm
  obtain ⟨s, rfl, rfl, rfl, hs⟩ := open_string Try.underlying9 (hval 0 9 v0 rfl rfl) h0
  unfold maxLen at hs
  clear hA0 hval0
  refine (walk s W hs).mono fun e W' ⟨he, bel⟩ => ?_
  subst he
  exact ⟨_, rfl, _, _, _, [], _, [], hW', trodAll_mk1 (shut_bool Try.underlying4 _), (trodAll_cons_mk (Below.trod laidOut (by kernel_rfl) (of_decide_eq_true (by kernel_rfl)) k0 bel lt0) trodAll_mk0), by first | rfl | simp, bel.frame _, fun h => by cases h⟩

theorem over : Rows.fnExactReadRubbingRow.holds Try.pinned (OpenSpec.ofChange Rows.fnExactReadRubbingSpec) :=
  OpenClaim.holds_of_wide 9 Try.f9 rfl rfl rfl rfl rfl rfl rfl ⟨rfl, rfl, rfl, rfl, rfl⟩ rfl rfl rfl rfl rfl (by kernel_rfl) Try.func9 (by kernel_rfl)
    (of_decide_eq_true (by kernel_rfl)) (by unfold Func.isWrapper; first | (rw [if_pos (by decide +kernel)]; kernel_rfl) | (rw [if_neg (by decide +kernel)]; exact ⟨rfl, rfl⟩))
    (fun os started H enc _ => lifted os started H enc)

theorem proved : Rows.FnExactReadRubbingSaid := over
#print axioms proved
end Go.Proofs.Ytkfjelbcaolepaa.lawExactReadRubbing
