/- The program's RubbingText returns what the reference's returns, for every rubbing. No condition. -/
import Derived.Test.YtkfjelbcaolepaaRows
import Derived.Test.YtkfjelbcaolepaaOpen
import Derived.Test.YtkfjelbcaolepaaRubT
namespace Go.Proofs.Ytkfjelbcaolepaa.lawExactRubbingText
open Go Go.RowKit Go.ChangeShapes Go.WideShapes Go.ChangeAt Go.Proofs.Ytkfjelbcaolepaa
open Go.ChangeMaps (open_string shut_string)
set_option linter.unusedVariables false

set_option maxRecDepth 100000 in
theorem walk (r : List Nat) (w : World) (hr : r.length = 8) (hx : ∀ k, rdN r k < 65536) :
    Calls Try.prog 3 #[.agg (R16 r)] w fun e w' => e = .returned (.bool true) ∧ Below w.heap.size w w' := by
  have hk := Blk.new w 23 (r.map u16)
  have hB := below_one w (.cells (R16 r) 23)
  have hne : ((strI (rowsC r 8)).toList != (strI (rowsC r 8)).toList) = false := by simp
  go_enter Try.func3, Try.ntmps3
  go_wp2_with (first
    | (refine wpList_load_row rfl 23 _ rfl _ rfl 23 (R16 r) _ _ hk Try.underlying23 rfl (by rw [R16_size, hr]; exact szArr8) ?_)
    | (go_at_call 18; refine (toRub_any r _ hr).mono ?_; rintro e w1 ⟨rfl, hb⟩; have hk := hk.next hb; have hB := below_step hB hb; clear hb)
    | (go_at_call 17; refine (text_spec r _ hr).mono ?_; rintro e w1 ⟨rfl, hb⟩; have hk := hk.next hb; have hB := below_step hB hb; clear hb)
    | (go_at_call 19; refine (text_impl r _ hr hx).mono ?_; rintro e w1 ⟨rfl, hb⟩; have hk := hk.next hb; have hB := below_step hB hb; clear hb))
  go_ret
  exact ⟨rfl, hB⟩

theorem own : ownKnob Try.prog.godebug = none := by kernel_rfl
theorem laidOut : laidOutB Try.prog = true := by kernel_rfl
set_option maxRecDepth 100000 in
theorem lifted (os : Os) (started : os.Started) (H : Type) (enc : TypeId × Value → H) :
    ReturnsInHanded {} Try.checked os 3 .any (Rows.fnExactRubbingTextSpec.pre6 enc Try.prog Try.f3 Rows.fnExactRubbingTextRow.domain false) (Rows.fnExactRubbingTextSpec.post enc Try.prog Try.f3 false true false false) := by
  refine returnsInHanded_of_change (C := Try.checked) own started (by kernel_rfl) Try.func3
    (ChangeSpec.witness6 (enc := enc) (C := Try.checked) false ⟨#[], #[.agg (R16 (List.replicate 8 0))], []⟩ 8 (by kernel_rfl) (by kernel_rfl) (by kernel_rfl) (by kernel_rfl)) ?_
  intro W base args ds gs before hval0 hW hcnd _
  have hval : ∀ (j : Nat) t v, Try.f3.params[j]? = some t → args[j]? = some v → Value.okWide Try.prog W .any base t v := hval0
  have hW' := hW
  obtain ⟨p, q, hA0, hV, rfl, hfz, hnd⟩ := hW
  have hA : DataW.TrodAll enc Try.prog W 0 (fun _ => true) true Try.f3.params.toList args.toList ds p := hA0
  rw [Try.params3] at hA hval
  obtain ⟨v0, vs0, d0, ds0, p0, q0, hargs, rfl, rfl, h0, r0⟩ := trodAll_cons hA
  obtain ⟨rfl, rfl, rfl⟩ := trodAll_nil r0
  obtain rfl : args = #[v0] := by cases args; simp_all
  obtain ⟨rfl, rfl⟩ := trodVars_none hV
  have k0 := h0
  have lt0 : ∀ x ∈ p0, x.block < W.heap.size := by obtain ⟨m, hm⟩ := k0; exact DataW.trod_lt m _ _ _ hm
  obtain ⟨r, rfl, hr, xr⟩ := open_rub Try.underlying23 Try.underlying22 (by kernel_rfl) (by kernel_rfl) (hval 0 23 v0 rfl rfl) h0
  clear hA0 hval0
  refine (walk r W hr xr).mono fun e W' ⟨he, bel⟩ => ?_
  subst he
  exact ⟨_, rfl, _, _, _, [], _, [], hW', trodAll_mk1 (shut_bool Try.underlying4 _), (trodAll_cons_mk (Below.trod laidOut (by kernel_rfl) (of_decide_eq_true (by kernel_rfl)) k0 bel lt0) trodAll_mk0), by first | rfl | simp, bel.frame _, fun h => by cases h⟩

theorem over : Rows.fnExactRubbingTextRow.holds Try.pinned (OpenSpec.ofChange Rows.fnExactRubbingTextSpec) :=
  OpenClaim.holds_of_wide 3 Try.f3 rfl rfl rfl rfl rfl rfl rfl ⟨rfl, rfl, rfl, rfl, rfl⟩ rfl rfl rfl rfl rfl (by kernel_rfl) Try.func3 (by kernel_rfl)
    (of_decide_eq_true (by kernel_rfl)) (by unfold Func.isWrapper; first | (rw [if_pos (by decide +kernel)]; kernel_rfl) | (rw [if_neg (by decide +kernel)]; exact ⟨rfl, rfl⟩))
    (fun os started H enc _ => lifted os started H enc)

theorem proved : Rows.FnExactRubbingTextSaid := over
#print axioms proved
end Go.Proofs.Ytkfjelbcaolepaa.lawExactRubbingText
