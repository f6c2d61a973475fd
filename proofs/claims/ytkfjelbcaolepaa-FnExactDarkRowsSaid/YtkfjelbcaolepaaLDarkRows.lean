/- The program's DarkRows returns what the reference's returns, for every rubbing, and hands back memory of its own. No condition. -/
import Derived.Test.YtkfjelbcaolepaaRows
import Derived.Test.YtkfjelbcaolepaaOpen
import Derived.Test.YtkfjelbcaolepaaRubK
namespace Go.Proofs.Ytkfjelbcaolepaa.lawExactDarkRows
open Go Go.RowKit Go.ChangeShapes Go.WideShapes Go.ChangeAt Go.Proofs.Ytkfjelbcaolepaa
open Go.ChangeMaps (open_string shut_string)
set_option linter.unusedVariables false

set_option maxHeartbeats 1000000 in
set_option maxRecDepth 100000 in
theorem walk (r : List Nat) (w : World) (hr : r.length = 8) (hx : ∀ k, rdN r k < 65536) :
    Calls Try.prog 10 #[.agg (R16 r)] w fun e w' => e = .returned (.bool true) ∧ Below w.heap.size w w' := by
  have hk := Blk.new w 23 (r.map u16)
  have hB := below_one w (.cells (R16 r) 23)
  have hl := rowsL_length r
  go_enter Try.func10, Try.ntmps10
  go_wp2_with (first
    | (refine wpList_load_row rfl 23 _ rfl _ rfl 23 (R16 r) _ _ hk Try.underlying23 rfl (by rw [R16_size, hr]; exact szArr8) ?_)
    | (go_at_call 18; refine (toRub_any r _ hr).mono ?_; rintro e w1 ⟨rfl, hb⟩; have hk := hk.next hb; have hB := below_step hB hb; clear hb))
  go_at_call 33
  refine (darkRows_spec_own r _ hr).mono ?_
  rintro e w1 ⟨g1, c1, cs1, rfl, hg1, hv1, hb⟩
  have hk := hk.next hb
  have hB := below_step hB hb
  clear hb hg1
  go_wp2_with (first
    | (refine wpList_load_row rfl 23 _ rfl _ rfl 23 (R16 r) _ _ hk Try.underlying23 rfl (by rw [R16_size, hr]; exact szArr8) ?_)
    | (go_at_call 18; refine (toRub_any r _ hr).mono ?_; rintro e w1 ⟨rfl, hb⟩; have hk := hk.next hb; have hv1 := hv1.next hb; have hB := below_step hB hb; clear hb))
  go_at_call 34
  refine (darkRows_impl_own r _ hr hx).mono ?_
  rintro e w2 ⟨g2, c2, cs2, rfl, hg2, hv2, hb⟩
  have hne : g1 ≠ g2 := by have := hv1.lt; omega
  have hkne : w.heap.size ≠ g2 := by have := hk.lt; omega
  have hg2' : w.heap.size ≤ g2 := by have := hB.size; omega
  have hk := hk.next hb
  have hv1 := hv1.next hb
  have hB := below_step hB hb
  clear hb hg2
  go_wp2_with (first
    | (go_at_call 35; refine (eqInt64S_same _ _ _ _ (rowsL r) 8 _ hl (by unfold maxLen; omega) (SlE.of_row hv2.head) (SlE.of_row hv1.head)).mono ?_; rintro e w3 ⟨rfl, m, rfl⟩; have hk := hk.drewN m; have hv1 := hv1.drewN m; have hv2 := hv2.drewN m; have hB := below_drewN hB m)
    | (go_at_call 36; refine (markInt64S_own g2 c2 _ _ 8 1 _ (by simp [hl]) (by omega) (by omega) hv2).mono ?_; rintro e w4 ⟨rfl, hv2m, hgr⟩; have hk := hk.grown hgr (by simpa using hkne); have hv1 := hv1.grown hgr (by simpa using hne); have hB := below_grownBy hB hgr hg2'; clear hgr; have hs := mark_row hv2m)
    | (go_at_call 37; refine (heldInt64S_same _ _ 8 1 _ (by omega) (by omega) (SlE.of_row hs)).mono ?_; rintro e w5 ⟨rfl, rfl⟩)
    | (refine wpList_load_row rfl 23 _ rfl _ rfl 23 (R16 r) _ _ hk Try.underlying23 rfl (by rw [R16_size, hr]; exact szArr8) ?_)
    | (go_at_call 18; refine (toRub_any r _ hr).mono ?_; rintro e w1 ⟨rfl, hb⟩; have hk := hk.next hb; have hv1 := hv1.next hb; have hs := hs.next hb; have hB := below_step hB hb; clear hb))
  go_at_call 34
  refine (darkRows_impl_own r _ hr hx).mono ?_
  rintro e w6 ⟨g3, c3, cs3, rfl, hg3, hv3, hb⟩
  have hv1 := hv1.next hb
  have hs := hs.next hb
  have hB := below_step hB hb
  clear hb hg3
  go_wp2_with (first
    | (go_at_call 35; refine (eqInt64S_same _ _ _ _ (rowsL r) 8 _ hl (by unfold maxLen; omega) (SlE.of_row hv3.head) (SlE.of_row hv1.head)).mono ?_; rintro e w7 ⟨rfl, m, rfl⟩; have hs : RowE i64 (w6.drewN m) ⟨g2, 0, none⟩ (fromN 1 8) := hs; have hB := below_drewN hB m)
    | (go_at_call 37; refine (heldInt64S_same _ _ 8 1 _ (by omega) (by omega) (SlE.of_row hs)).mono ?_; rintro e w8 ⟨rfl, rfl⟩))
  go_ret
  exact ⟨rfl, hB⟩

theorem own : ownKnob Try.prog.godebug = none := by kernel_rfl
theorem laidOut : laidOutB Try.prog = true := by kernel_rfl
set_option maxRecDepth 100000 in
theorem lifted (os : Os) (started : os.Started) (H : Type) (enc : TypeId × Value → H) :
    ReturnsInHanded {} Try.checked os 10 .any (Rows.fnExactDarkRowsSpec.pre6 enc Try.prog Try.f10 Rows.fnExactDarkRowsRow.domain false) (Rows.fnExactDarkRowsSpec.post enc Try.prog Try.f10 false true false false) := by
  refine returnsInHanded_of_change (C := Try.checked) own started (by kernel_rfl) Try.func10
    (ChangeSpec.witness6 (enc := enc) (C := Try.checked) false ⟨#[], #[.agg (R16 (List.replicate 8 0))], []⟩ 8 (by kernel_rfl) (by kernel_rfl) (by kernel_rfl) (by kernel_rfl)) ?_
  intro W base args ds gs before hval0 hW hcnd _
  have hval : ∀ (j : Nat) t v, Try.f10.params[j]? = some t → args[j]? = some v → Value.okWide Try.prog W .any base t v := hval0
  have hW' := hW
  obtain ⟨p, q, hA0, hV, rfl, hfz, hnd⟩ := hW
  have hA : DataW.TrodAll enc Try.prog W 0 (fun _ => true) true Try.f10.params.toList args.toList ds p := hA0
  rw [Try.params10] at hA hval
  obtain ⟨v0, vs0, d0, ds0, p0, q0, hargs, rfl, rfl, h0, r0⟩ := trodAll_cons hA
  obtain ⟨rfl, rfl, rfl⟩ := trodAll_nil r0
  obtain rfl : args = #[v0] := by cases args; simp_all
  obtain ⟨rfl, rfl⟩ := trodVars_none hV
  have k0 := h0
  have lt0 : ∀ x ∈ p0, x.block < W.heap.size := by obtain ⟨m, hm⟩ := k0; exact DataW.trod_lt m _ _ _ hm
  obtain ⟨r, rfl, hr, xr⟩ := open_rub Try.underlying23 Try.underlying22 (by kernel_rfl) (by kernel_rfl) (hval 0 23 v0 rfl rfl) h0
  clear hA0 hval0
  refine (walk r W hr xr).mono fun e W' ⟨he, bel⟩ => ?_
  subst he
  exact ⟨_, rfl, _, _, _, [], _, [], hW', trodAll_mk1 (shut_bool Try.underlying4 _), (trodAll_cons_mk (Below.trod laidOut (by kernel_rfl) (of_decide_eq_true (by kernel_rfl)) k0 bel lt0) trodAll_mk0), by first | rfl | simp, bel.frame _, fun h => by cases h⟩

theorem over : Rows.fnExactDarkRowsRow.holds Try.pinned (OpenSpec.ofChange Rows.fnExactDarkRowsSpec) :=
  OpenClaim.holds_of_wide 10 Try.f10 rfl rfl rfl rfl rfl rfl rfl ⟨rfl, rfl, rfl, rfl, rfl⟩ rfl rfl rfl rfl rfl (by kernel_rfl) Try.func10 (by kernel_rfl)
    (of_decide_eq_true (by kernel_rfl)) (by unfold Func.isWrapper; first | (rw [if_pos (by decide +kernel)]; kernel_rfl) | (rw [if_neg (by decide +kernel)]; exact ⟨rfl, rfl⟩))
    (fun os started H enc _ => lifted os started H enc)

theorem proved : Rows.FnExactDarkRowsSaid := over
#print axioms proved
end Go.Proofs.Ytkfjelbcaolepaa.lawExactDarkRows
