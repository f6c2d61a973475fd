/- The program's GapsApart returns what the reference's returns, for all two slices of numbers, and both stay as they were. No condition. -/
import Derived.Test.YtjgflkoefimmoaaRows
import Derived.Test.YtjgflkoefimmoaaOpen
import Derived.Test.YtjgflkoefimmoaaGapD
import Derived.Test.YtjgflkoefimmoaaOpenS
namespace Go.Proofs.Ytjgflkoefimmoaa.lawExactGapsApart
open Go Go.RowKit Go.ChangeShapes Go.WideShapes Go.ChangeAt Go.Proofs.Ytjgflkoefimmoaa
open Go.ChangeMaps (open_string shut_string)
set_option linter.unusedVariables false

set_option maxHeartbeats 1000000 in
set_option maxRecDepth 100000 in
theorem walk (Aa : Option Addr) (ca : Nat) (a : List Int) (na : Nat) (Ab : Option Addr) (cb : Nat) (b : List Int) (nb : Nat) (w : World) (ha : a.length = na) (ma : na ≤ maxLen) (sa : SlE i64 w Aa a) (hb : b.length = nb) (mb : nb ≤ maxLen) (sb : SlE i64 w Ab b) :
    Calls Try.prog 3 #[.slice Aa na ca, .slice Ab nb cb] w fun e w' => e = .returned (.bool true) ∧ Below w.heap.size w w' := by
  unfold maxLen at ma mb
  have HA := Lib.hid ha
  have HB := Lib.hid hb
  clear ha hb
  by_cases l1 : (na : Int) > 1048576
  · clear sa sb
    go_enter Try.func3, Try.ntmps3
    go_wp2
    go_ret
    exact ⟨rfl, Below.refl _ w⟩
  · by_cases l2 : (nb : Int) > 1048576
    · clear sa sb
      go_enter Try.func3, Try.ntmps3
      go_wp2
      go_ret
      exact ⟨rfl, Below.refl _ w⟩
    · have n1 : ((gapsOut a b).1 != (gapsOut a b).1) = false := by simp
      have n2 : ((gapsOut a b).2 != (gapsOut a b).2) = false := by simp
      have hB := Below.refl w.heap.size w
      go_enter Try.func3, Try.ntmps3
      go_wp2_with fail
      go_at_call 7
      refine (toInt64S_any Aa ca a na _ HA.out (by omega) sa).mono ?_
      rintro e w1 ⟨g1, cs1, rfl, _, h1, hb1⟩
      have sa := sa.next hb1
      have sb := sb.next hb1
      have hB := below_step hB hb1
      clear hb1
      go_wp2_with fail
      go_at_call 7
      refine (toInt64S_any Ab cb b nb _ HB.out (by omega) sb).mono ?_
      rintro e w1 ⟨g2, cs2, rfl, _, h2, hb1⟩
      have sa := sa.next hb1
      have sb := sb.next hb1
      have h1 := h1.next hb1
      have hB := below_step hB hb1
      clear hb1
      go_wp2_with fail
      go_at_call 6
      refine (gapsApart_spec _ _ _ _ a b na nb _ HA.out HB.out (by omega) (by omega) (SlE.of_row h1.head) (SlE.of_row h2.head)).mono ?_
      rintro e w1 ⟨rfl, q, rfl⟩
      have sa := sa.same (fun _ _ => rfl) (w' := World.drewN _ q)
      have sb := sb.same (fun _ _ => rfl) (w' := World.drewN _ q)
      have hB := below_drewN hB q
      go_wp2_with fail
      clear h1 h2
      go_at_call 7
      refine (toInt64S_any Aa ca a na _ HA.out (by omega) sa).mono ?_
      rintro e w1 ⟨g1, cs1, rfl, _, h1, hb1⟩
      have sa := sa.next hb1
      have sb := sb.next hb1
      have hB := below_step hB hb1
      clear hb1
      go_wp2_with fail
      go_at_call 7
      refine (toInt64S_any Ab cb b nb _ HB.out (by omega) sb).mono ?_
      rintro e w1 ⟨g2, cs2, rfl, _, h2, hb1⟩
      have sa := sa.next hb1
      have sb := sb.next hb1
      have h1 := h1.next hb1
      have hB := below_step hB hb1
      clear hb1
      go_wp2_with fail
      go_at_call 8
      refine (gapsApart_impl _ _ _ _ a b na nb _ HA.out HB.out (by omega) (by omega) (SlE.of_row h1.head) (SlE.of_row h2.head)).mono ?_
      rintro e w1 ⟨rfl, q, rfl⟩
      have sa := sa.same (fun _ _ => rfl) (w' := World.drewN _ q)
      have sb := sb.same (fun _ _ => rfl) (w' := World.drewN _ q)
      have h1 := h1.drewN q
      have h2 := h2.drewN q
      have hB := below_drewN hB q
      go_wp2_with fail
      go_at_call 7
      refine (toInt64S_any Aa ca a na _ HA.out (by omega) sa).mono ?_
      rintro e w1 ⟨g3, cs3, rfl, _, h3, hb1⟩
      have sa := sa.next hb1
      have sb := sb.next hb1
      have h1 := h1.next hb1
      have h2 := h2.next hb1
      have hB := below_step hB hb1
      clear hb1
      go_wp2_with fail
      go_at_call 9
      refine (eqInt64S_same _ _ _ _ a na _ HA.out (by unfold maxLen; omega) (SlE.of_row h1.head) (SlE.of_row h3.head)).mono ?_
      rintro e w1 ⟨rfl, q, rfl⟩
      have sa := sa.same (fun _ _ => rfl) (w' := World.drewN _ q)
      have sb := sb.same (fun _ _ => rfl) (w' := World.drewN _ q)
      have h2 := h2.drewN q
      have hB := below_drewN hB q
      go_wp2_with fail
      go_at_call 7
      refine (toInt64S_any Ab cb b nb _ HB.out (by omega) sb).mono ?_
      rintro e w1 ⟨g4, cs4, rfl, _, h4, hb1⟩
      have sa := sa.next hb1
      have sb := sb.next hb1
      have h2 := h2.next hb1
      have hB := below_step hB hb1
      clear hb1
      go_wp2_with fail
      go_at_call 9
      refine (eqInt64S_same _ _ _ _ b nb _ HB.out (by unfold maxLen; omega) (SlE.of_row h2.head) (SlE.of_row h4.head)).mono ?_
      rintro e w1 ⟨rfl, q, rfl⟩
      have sa := sa.same (fun _ _ => rfl) (w' := World.drewN _ q)
      have sb := sb.same (fun _ _ => rfl) (w' := World.drewN _ q)
      have hB := below_drewN hB q
      go_wp2_with fail
      go_ret
      exact ⟨rfl, hB⟩

theorem own : ownKnob Try.prog.godebug = none := by kernel_rfl
theorem laidOut : laidOutB Try.prog = true := by kernel_rfl
set_option maxRecDepth 100000 in
theorem lifted (os : Os) (started : os.Started) (H : Type) (enc : TypeId × Value → H) :
    ReturnsInHanded {} Try.checked os 3 .any (Rows.fnExactGapsApartSpec.pre6 enc Try.prog Try.f3 Rows.fnExactGapsApartRow.domain false) (Rows.fnExactGapsApartSpec.post enc Try.prog Try.f3 false true false false) := by
  refine returnsInHanded_of_change (C := Try.checked) own started (by kernel_rfl) Try.func3
    (ChangeSpec.witness6 (enc := enc) (C := Try.checked) false ⟨#[], #[.slice none 0 0, .slice none 0 0], []⟩ 8 (by kernel_rfl) (by kernel_rfl) (by kernel_rfl) (by kernel_rfl)) ?_
  intro W base args ds gs before hval0 hW hcnd _
  have hval : ∀ (j : Nat) t v, Try.f3.params[j]? = some t → args[j]? = some v → Value.okWide Try.prog W .any base t v := hval0
  have hW' := hW
  obtain ⟨p, q, hA0, hV, rfl, hfz, hnd⟩ := hW
  have hA : DataW.TrodAll enc Try.prog W 0 (fun _ => true) true Try.f3.params.toList args.toList ds p := hA0
  rw [Try.params3] at hA hval
  obtain ⟨v0, vs0, d0, ds0, p0, q0, hargs, rfl, rfl, h0, r0⟩ := trodAll_cons hA
  obtain ⟨v1, vs1, d1, ds1, p1, q1, rfl, rfl, rfl, h1, r1⟩ := trodAll_cons r0
  obtain ⟨rfl, rfl, rfl⟩ := trodAll_nil r1
  obtain rfl : args = #[v0, v1] := by cases args; simp_all
  obtain ⟨rfl, rfl⟩ := trodVars_none hV
  have k0 := h0
  have lt0 : ∀ x ∈ p0, x.block < W.heap.size := by obtain ⟨m, hm⟩ := k0; exact DataW.trod_lt m _ _ _ hm
  have k1 := h1
  have lt1 : ∀ x ∈ p1, x.block < W.heap.size := by obtain ⟨m, hm⟩ := k1; exact DataW.trod_lt m _ _ _ hm
  obtain ⟨Aa, ca, a, na, rfl, ha, ma, sa⟩ := open_i64s Try.underlying22 Try.underlying2 (by kernel_rfl) (hval 0 22 v0 rfl rfl) h0
  obtain ⟨Ab, cb, b, nb, rfl, hb, mb, sb⟩ := open_i64s Try.underlying22 Try.underlying2 (by kernel_rfl) (hval 1 22 v1 rfl rfl) h1
  clear hA0 hval0
  refine (walk Aa ca a na Ab cb b nb W ha ma sa hb mb sb).mono fun e W' ⟨he, bel⟩ => ?_
  subst he
  exact ⟨_, rfl, _, _, _, [], _, [], hW', trodAll_mk1 (shut_bool Try.underlying4 _), (trodAll_cons_mk (Below.trod laidOut (by kernel_rfl) (of_decide_eq_true (by kernel_rfl)) k0 bel lt0) (trodAll_cons_mk (Below.trod laidOut (by kernel_rfl) (of_decide_eq_true (by kernel_rfl)) k1 bel lt1) trodAll_mk0)), by first | rfl | simp, bel.frame _, fun h => by cases h⟩

theorem over : Rows.fnExactGapsApartRow.holds Try.pinned (OpenSpec.ofChange Rows.fnExactGapsApartSpec) :=
  OpenClaim.holds_of_wide 3 Try.f3 rfl rfl rfl rfl rfl rfl rfl ⟨rfl, rfl, rfl, rfl, rfl⟩ rfl rfl rfl rfl rfl (by kernel_rfl) Try.func3 (by kernel_rfl)
    (of_decide_eq_true (by kernel_rfl)) (by unfold Func.isWrapper; first | (rw [if_pos (by decide +kernel)]; kernel_rfl) | (rw [if_neg (by decide +kernel)]; exact ⟨rfl, rfl⟩))
    (fun os started H enc _ => lifted os started H enc)

theorem proved : Rows.FnExactGapsApartSaid := over
#print axioms proved
end Go.Proofs.Ytjgflkoefimmoaa.lawExactGapsApart
