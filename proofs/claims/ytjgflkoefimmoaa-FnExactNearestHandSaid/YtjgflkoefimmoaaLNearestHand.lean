/- The program's NearestHand returns what the reference's returns, for all slices of hands and all slices of numbers, and both stay as they were. No condition. -/
import Derived.Test.YtjgflkoefimmoaaRows
import Derived.Test.YtjgflkoefimmoaaOpen
import Derived.Test.YtjgflkoefimmoaaHandC
import Derived.Test.YtjgflkoefimmoaaOpenH
namespace Go.Proofs.Ytjgflkoefimmoaa.lawExactNearestHand
open Go Go.RowKit Go.ChangeShapes Go.WideShapes Go.ChangeAt Go.Proofs.Ytjgflkoefimmoaa
open Go.ChangeMaps (open_string shut_string)
set_option linter.unusedVariables false

set_option maxHeartbeats 1000000 in
set_option maxRecDepth 100000 in
theorem walk (Ah : Option Addr) (ch : Nat) (h : List (List Int)) (nh : Nat) (Ag : Option Addr) (cg : Nat) (g : List Int) (ng : Nat) (w : World) (hh : h.length = nh) (mh : nh ≤ maxLen) (ih : ∀ i, i < nh → (rdL h i).length ≤ maxLen) (sh : Sl2 w Ah h) (hg : g.length = ng) (mg : ng ≤ maxLen) (sg : SlE i64 w Ag g) :
    Calls Try.prog 4 #[.slice Ah nh ch, .slice Ag ng cg] w fun e w' => e = .returned (.bool true) ∧ Below w.heap.size w w' := by
  have HH := Lib.hid hh
  have HG := Lib.hid hg
  have HI := Lib.hid ih
  have hmh := mh
  have hmg := mg
  unfold maxLen at hmg
  clear hh hg ih
  by_cases l1 : (ng : Int) > 1048576
  · clear sh sg
    go_enter Try.func4, Try.ntmps4
    go_wp2
    go_ret
    exact ⟨rfl, Below.refl _ w⟩
  · have n1 : ((nearOut h g nh).1 != (nearOut h g nh).1) = false := by simp
    have n2 : ((nearOut h g nh).2.1 != (nearOut h g nh).2.1) = false := by simp
    have n3 : ((nearOut h g nh).2.2 != (nearOut h g nh).2.2) = false := by simp
    have hB := Below.refl w.heap.size w
    go_enter Try.func4, Try.ntmps4
    go_wp2_with fail
    go_at_call 10
    refine (szInt64SS_any Ah ch nh h _ HH.out hmh HI.out sh).mono ?_
    rintro e w' ⟨⟨v, rfl, hv⟩, rfl⟩
    by_cases hv0 : v < 0
    · clear sh sg hv
      go_wp2
      go_ret
      exact ⟨rfl, hB⟩
    · have hsm := hv (by omega)
      clear hv
      go_wp2_with fail
      go_at_call 12
      refine (toInt64SS_any Ah ch h nh _ HH.out hsm sh).mono ?_
      rintro e w1 ⟨b1, rfl, _, h1, hb1⟩
      have sh := sh.next hb1
      have sg := sg.next hb1
      have hB := below_step hB hb1
      clear hb1
      go_wp2_with fail
      go_at_call 7
      refine (toInt64S_any Ag cg g ng _ HG.out (by omega) sg).mono ?_
      rintro e w1 ⟨b2, cs2, rfl, _, h2, hb1⟩
      have sh := sh.next hb1
      have sg := sg.next hb1
      have h1 := h1.next hb1
      have hB := below_step hB hb1
      clear hb1
      go_wp2_with fail
      go_at_call 11
      refine (nearest_spec _ _ _ _ h g nh ng _ HH.out hsm h1 HG.out (by omega) (SlE.of_row h2.head)).mono ?_
      rintro e w1 ⟨rfl, q, rfl⟩
      have sh := sh.drewN q
      have sg := sg.same (fun _ _ => rfl) (w' := World.drewN _ q)
      have hB := below_drewN hB q
      go_wp2_with fail
      clear h1 h2
      go_at_call 12
      refine (toInt64SS_any Ah ch h nh _ HH.out hsm sh).mono ?_
      rintro e w1 ⟨b1, rfl, _, h1, hb1⟩
      have sh := sh.next hb1
      have sg := sg.next hb1
      have hB := below_step hB hb1
      clear hb1
      go_wp2_with fail
      go_at_call 7
      refine (toInt64S_any Ag cg g ng _ HG.out (by omega) sg).mono ?_
      rintro e w1 ⟨b2, cs2, rfl, _, h2, hb1⟩
      have sh := sh.next hb1
      have sg := sg.next hb1
      have h1 := h1.next hb1
      have hB := below_step hB hb1
      clear hb1
      go_wp2_with fail
      go_at_call 13
      refine (nearest_impl _ _ _ _ h g nh ng _ HH.out hsm h1 HG.out (by omega) (SlE.of_row h2.head)).mono ?_
      rintro e w1 ⟨rfl, q, rfl⟩
      have sh := sh.drewN q
      have sg := sg.same (fun _ _ => rfl) (w' := World.drewN _ q)
      have h1 := h1.drewN q
      have h2 := h2.drewN q
      have hB := below_drewN hB q
      go_wp2_with fail
      go_at_call 12
      refine (toInt64SS_any Ah ch h nh _ HH.out hsm sh).mono ?_
      rintro e w1 ⟨b3, rfl, _, h3, hb1⟩
      have sh := sh.next hb1
      have sg := sg.next hb1
      have h1 := h1.next hb1
      have h2 := h2.next hb1
      have hB := below_step hB hb1
      clear hb1
      go_wp2_with fail
      go_at_call 14
      refine (eqInt64SS_same _ _ _ _ h nh _ HH.out hsm h1 h3).mono ?_
      rintro e w1 ⟨rfl, q, rfl⟩
      have sh := sh.drewN q
      have sg := sg.same (fun _ _ => rfl) (w' := World.drewN _ q)
      have h2 := h2.drewN q
      have hB := below_drewN hB q
      go_wp2_with fail
      go_at_call 7
      refine (toInt64S_any Ag cg g ng _ HG.out (by omega) sg).mono ?_
      rintro e w1 ⟨b4, cs4, rfl, _, h4, hb1⟩
      have sh := sh.next hb1
      have sg := sg.next hb1
      have h2 := h2.next hb1
      have hB := below_step hB hb1
      clear hb1
      go_wp2_with fail
      go_at_call 9
      refine (eqInt64S_same _ _ _ _ g ng _ HG.out (by unfold maxLen; omega) (SlE.of_row h2.head) (SlE.of_row h4.head)).mono ?_
      rintro e w1 ⟨rfl, q, rfl⟩
      have sh := sh.drewN q
      have sg := sg.same (fun _ _ => rfl) (w' := World.drewN _ q)
      have hB := below_drewN hB q
      go_wp2_with fail
      go_ret
      exact ⟨rfl, hB⟩

theorem own : ownKnob Try.prog.godebug = none := by kernel_rfl
theorem laidOut : laidOutB Try.prog = true := by kernel_rfl
set_option maxRecDepth 100000 in
theorem lifted (os : Os) (started : os.Started) (H : Type) (enc : TypeId × Value → H) :
    ReturnsInHanded {} Try.checked os 4 .any (Rows.fnExactNearestHandSpec.pre6 enc Try.prog Try.f4 Rows.fnExactNearestHandRow.domain false) (Rows.fnExactNearestHandSpec.post enc Try.prog Try.f4 false true false false) := by
  refine returnsInHanded_of_change (C := Try.checked) own started (by kernel_rfl) Try.func4
    (ChangeSpec.witness6 (enc := enc) (C := Try.checked) false ⟨#[], #[.slice none 0 0, .slice none 0 0], []⟩ 8 (by kernel_rfl) (by kernel_rfl) (by kernel_rfl) (by kernel_rfl)) ?_
  intro W base args ds gs before hval0 hW hcnd _
  have hval : ∀ (j : Nat) t v, Try.f4.params[j]? = some t → args[j]? = some v → Value.okWide Try.prog W .any base t v := hval0
  have hW' := hW
  obtain ⟨p, q, hA0, hV, rfl, hfz, hnd⟩ := hW
  have hA : DataW.TrodAll enc Try.prog W 0 (fun _ => true) true Try.f4.params.toList args.toList ds p := hA0
  rw [Try.params4] at hA hval
  obtain ⟨v0, vs0, d0, ds0, p0, q0, hargs, rfl, rfl, h0, r0⟩ := trodAll_cons hA
  obtain ⟨v1, vs1, d1, ds1, p1, q1, rfl, rfl, rfl, h1, r1⟩ := trodAll_cons r0
  obtain ⟨rfl, rfl, rfl⟩ := trodAll_nil r1
  obtain rfl : args = #[v0, v1] := by cases args; simp_all
  obtain ⟨rfl, rfl⟩ := trodVars_none hV
  have k0 := h0
  have lt0 : ∀ x ∈ p0, x.block < W.heap.size := by obtain ⟨m, hm⟩ := k0; exact DataW.trod_lt m _ _ _ hm
  have k1 := h1
  have lt1 : ∀ x ∈ p1, x.block < W.heap.size := by obtain ⟨m, hm⟩ := k1; exact DataW.trod_lt m _ _ _ hm
  obtain ⟨Ah, ch, h, nh, rfl, hh, mh, ih, sh⟩ := open_i64ss Try.underlying27 Try.underlying22 Try.underlying2 (by kernel_rfl) (by kernel_rfl) (hval 0 27 v0 rfl rfl) h0
  obtain ⟨Ag, cg, g, ng, rfl, hg, mg, sg⟩ := open_i64s Try.underlying22 Try.underlying2 (by kernel_rfl) (hval 1 22 v1 rfl rfl) h1
  clear hA0 hval0
  refine (walk Ah ch h nh Ag cg g ng W hh mh ih sh hg mg sg).mono fun e W' ⟨he, bel⟩ => ?_
  subst he
  exact ⟨_, rfl, _, _, _, [], _, [], hW', trodAll_mk1 (shut_bool Try.underlying4 _), (trodAll_cons_mk (Below.trod laidOut (by kernel_rfl) (of_decide_eq_true (by kernel_rfl)) k0 bel lt0) (trodAll_cons_mk (Below.trod laidOut (by kernel_rfl) (of_decide_eq_true (by kernel_rfl)) k1 bel lt1) trodAll_mk0)), by first | rfl | simp, bel.frame _, fun h => by cases h⟩

theorem over : Rows.fnExactNearestHandRow.holds Try.pinned (OpenSpec.ofChange Rows.fnExactNearestHandSpec) :=
  OpenClaim.holds_of_wide 4 Try.f4 rfl rfl rfl rfl rfl rfl rfl ⟨rfl, rfl, rfl, rfl, rfl⟩ rfl rfl rfl rfl rfl (by kernel_rfl) Try.func4 (by kernel_rfl)
    (of_decide_eq_true (by kernel_rfl)) (by unfold Func.isWrapper; first | (rw [if_pos (by decide +kernel)]; kernel_rfl) | (rw [if_neg (by decide +kernel)]; exact ⟨rfl, rfl⟩))
    (fun os started H enc _ => lifted os started H enc)

theorem proved : Rows.FnExactNearestHandSaid := over
#print axioms proved
end Go.Proofs.Ytjgflkoefimmoaa.lawExactNearestHand
