/- The program's WearUntil returns what the reference's returns, for every rubbing and all two numbers. No condition. -/
import Derived.Test.YtkfjelbcaolepaaRows
import Derived.Test.YtkfjelbcaolepaaOpen
import Derived.Test.YtkfjelbcaolepaaRubZ
namespace Go.Proofs.Ytkfjelbcaolepaa.lawExactWearUntil
open Go Go.RowKit Go.ChangeShapes Go.WideShapes Go.ChangeAt Go.Proofs.Ytkfjelbcaolepaa
open Go.ChangeMaps (open_string shut_string)
set_option linter.unusedVariables false

set_option maxRecDepth 100000 in
theorem walk (r : List Nat) (need bound : Int) (w : World) (hr : r.length = 8) (hx : ∀ k, rdN r k < 65536) (bn : -9223372036854775808 ≤ need ∧ need ≤ 9223372036854775807) (bb : -9223372036854775808 ≤ bound ∧ bound ≤ 9223372036854775807) :
    Calls Try.prog 16 #[.agg (R16 r), .int .i64 need, .int .i64 bound] w fun e w' => e = .returned (.bool true) ∧ Below w.heap.size w w' := by
  have hk := Blk.new w 23 (r.map u16)
  have hB := below_one w (.cells (R16 r) 23)
  have n1 : ((wuOut r need bound).1 != (wuOut r need bound).1) = false := by simp
  have n2 : ((wuOut r need bound).2 != (wuOut r need bound).2) = false := by simp
  go_enter Try.func16, Try.ntmps16
  go_wp2_with (first
    | (refine wpList_load_row rfl 23 _ rfl _ rfl 23 (R16 r) _ _ hk Try.underlying23 rfl (by rw [R16_size, hr]; exact szArr8) ?_)
    | (go_at_call 18; refine (toRub_any r _ hr).mono ?_; rintro e w1 ⟨rfl, hb⟩; have hk := hk.next hb; have hB := below_step hB hb; clear hb)
    | (go_at_call 51; refine (wearUntil_spec r need bound _ hr hx).mono ?_; rintro e w1 ⟨rfl, hb⟩; have hk := hk.next hb; have hB := below_step hB hb; clear hb)
    | (go_at_call 52; refine (wearUntil_impl r need bound _ hr hx).mono ?_; rintro e w1 ⟨rfl, hb⟩; have hk := hk.next hb; have hB := below_step hB hb; clear hb))
  go_ret
  exact ⟨rfl, hB⟩

theorem own : ownKnob Try.prog.godebug = none := by kernel_rfl
theorem laidOut : laidOutB Try.prog = true := by kernel_rfl
set_option maxRecDepth 100000 in
theorem lifted (os : Os) (started : os.Started) (H : Type) (enc : TypeId × Value → H) :
    ReturnsInHanded {} Try.checked os 16 .any (Rows.fnExactWearUntilSpec.pre6 enc Try.prog Try.f16 Rows.fnExactWearUntilRow.domain false) (Rows.fnExactWearUntilSpec.post enc Try.prog Try.f16 false true false false) := by
  refine returnsInHanded_of_change (C := Try.checked) own started (by kernel_rfl) Try.func16
    (ChangeSpec.witness6 (enc := enc) (C := Try.checked) false ⟨#[], #[.agg (R16 (List.replicate 8 0)), .int .i64 0, .int .i64 0], []⟩ 8 (by kernel_rfl) (by kernel_rfl) (by kernel_rfl) (by kernel_rfl)) ?_
  intro W base args ds gs before hval0 hW hcnd _
  have hval : ∀ (j : Nat) t v, Try.f16.params[j]? = some t → args[j]? = some v → Value.okWide Try.prog W .any base t v := hval0
  have hW' := hW
  obtain ⟨p, q, hA0, hV, rfl, hfz, hnd⟩ := hW
  have hA : DataW.TrodAll enc Try.prog W 0 (fun _ => true) true Try.f16.params.toList args.toList ds p := hA0
  rw [Try.params16] at hA hval
  obtain ⟨v0, vs0, d0, ds0, p0, q0, hargs, rfl, rfl, h0, r0⟩ := trodAll_cons hA
  obtain ⟨v1, vs1, d1, ds1, p1, q1, rfl, rfl, rfl, h1, r1⟩ := trodAll_cons r0
  obtain ⟨v2, vs2, d2, ds2, p2, q2, rfl, rfl, rfl, h2, r2⟩ := trodAll_cons r1
  obtain ⟨rfl, rfl, rfl⟩ := trodAll_nil r2
  obtain rfl : args = #[v0, v1, v2] := by cases args; simp_all
  obtain ⟨rfl, rfl⟩ := trodVars_none hV
  have k0 := h0
  have lt0 : ∀ x ∈ p0, x.block < W.heap.size := by obtain ⟨m, hm⟩ := k0; exact DataW.trod_lt m _ _ _ hm
  have k1 := h1
  have lt1 : ∀ x ∈ p1, x.block < W.heap.size := by obtain ⟨m, hm⟩ := k1; exact DataW.trod_lt m _ _ _ hm
  have k2 := h2
  have lt2 : ∀ x ∈ p2, x.block < W.heap.size := by obtain ⟨m, hm⟩ := k2; exact DataW.trod_lt m _ _ _ hm
  obtain ⟨r, rfl, hr, xr⟩ := open_rub Try.underlying23 Try.underlying22 (by kernel_rfl) (by kernel_rfl) (hval 0 23 v0 rfl rfl) h0
  obtain ⟨need, rfl, rfl, rfl, wneed⟩ := open_int Try.underlying2 (hval 1 2 v1 rfl rfl) h1
  have bneed := bounds_i64 wneed
  obtain ⟨bound, rfl, rfl, rfl, wbound⟩ := open_int Try.underlying2 (hval 2 2 v2 rfl rfl) h2
  have bbound := bounds_i64 wbound
  clear hA0 hval0
  refine (walk r need bound W hr xr bneed bbound).mono fun e W' ⟨he, bel⟩ => ?_
  subst he
  exact ⟨_, rfl, _, _, _, [], _, [], hW', trodAll_mk1 (shut_bool Try.underlying4 _), (trodAll_cons_mk (Below.trod laidOut (by kernel_rfl) (of_decide_eq_true (by kernel_rfl)) k0 bel lt0) (trodAll_cons_mk (Below.trod laidOut (by kernel_rfl) (of_decide_eq_true (by kernel_rfl)) k1 bel lt1) (trodAll_cons_mk (Below.trod laidOut (by kernel_rfl) (of_decide_eq_true (by kernel_rfl)) k2 bel lt2) trodAll_mk0))), by first | rfl | simp, bel.frame _, fun h => by cases h⟩

theorem over : Rows.fnExactWearUntilRow.holds Try.pinned (OpenSpec.ofChange Rows.fnExactWearUntilSpec) :=
  OpenClaim.holds_of_wide 16 Try.f16 rfl rfl rfl rfl rfl rfl rfl ⟨rfl, rfl, rfl, rfl, rfl⟩ rfl rfl rfl rfl rfl (by kernel_rfl) Try.func16 (by kernel_rfl)
    (of_decide_eq_true (by kernel_rfl)) (by unfold Func.isWrapper; first | (rw [if_pos (by decide +kernel)]; kernel_rfl) | (rw [if_neg (by decide +kernel)]; exact ⟨rfl, rfl⟩))
    (fun os started H enc _ => lifted os started H enc)

theorem proved : Rows.FnExactWearUntilSaid := over
#print axioms proved
end Go.Proofs.Ytkfjelbcaolepaa.lawExactWearUntil
