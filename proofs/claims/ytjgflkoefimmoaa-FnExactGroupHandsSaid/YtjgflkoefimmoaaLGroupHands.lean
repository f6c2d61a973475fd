/- The program's GroupHands returns what the reference's returns, for all slices of hands and every limit, hands back memory of its own, and the hands stay as they were. No condition. -/
import Derived.Test.YtjgflkoefimmoaaRows
import Derived.Test.YtjgflkoefimmoaaOpen
import Derived.Test.YtjgflkoefimmoaaGroupT
import Derived.Test.YtjgflkoefimmoaaGroupI
import Derived.Test.YtjgflkoefimmoaaGroupM
import Derived.Test.YtjgflkoefimmoaaOpenH
namespace Go.Proofs.Ytjgflkoefimmoaa.lawExactGroupHands
open Go Go.RowKit Go.ChangeShapes Go.WideShapes Go.ChangeAt Go.Proofs.Ytjgflkoefimmoaa
open Go.ChangeMaps (open_string shut_string)
set_option linter.unusedVariables false

theorem gout_own {w : World} {xs : List Int} {code : Int} {e : Ending} {w' : World} (h : GOut w xs code e w') :
    ∃ A c, e = .returned (.tuple #[.slice A xs.length c, .int .i64 code]) ∧ Below w.heap.size w w' ∧ OwnS w' w.heap.size w'.heap.size A xs := by
  obtain ⟨A, c, he, hb, ho⟩ := h
  refine ⟨A, c, he, hb, fun hn => ?_⟩
  obtain ⟨g, cs, rfl, hg, hk⟩ := ho hn
  exact ⟨g, cs, rfl, hg, hk.lt, hk⟩
theorem groupOut_len (h : List (List Int)) (n : Nat) (limit : Int) : (groupOut h n limit).1.length ≤ 8 := by
  by_cases hc : handsCode h n = 0
  · by_cases hl : limit < 0
    · rw [groupOut_neg hc hl]; simp
    · rw [groupOut_ok hc hl]
      have := grpAll_length (near := nearB h limit) (n := n) n
      have := (code_zero hc).2
      simp; omega
  · rw [groupOut_code hc]; simp

set_option maxHeartbeats 2000000 in
set_option maxRecDepth 100000 in
theorem walk (Ah : Option Addr) (ch : Nat) (h : List (List Int)) (nh : Nat) (limit : Int) (w : World) (hh : h.length = nh) (mh : nh ≤ maxLen) (ih : ∀ i, i < nh → (rdL h i).length ≤ maxLen) (sh : Sl2 w Ah h) (bl : -9223372036854775808 ≤ limit ∧ limit ≤ 9223372036854775807) :
    Calls Try.prog 5 #[.slice Ah nh ch, .int .i64 limit] w fun e w' => e = .returned (.bool true) ∧ Below w.heap.size w w' := by
  have HH := Lib.hid hh
  have HI := Lib.hid ih
  have SH := Lib.hid sh
  have hmh := mh
  have hlen := groupOut_len h nh limit
  have ncode : ((groupOut h nh limit).2 != (groupOut h nh limit).2) = false := by simp
  have hB := Below.refl w.heap.size w
  clear hh ih sh
  go_enter Try.func5, Try.ntmps5
  go_wp2_with fail
  go_at_call 10
  refine (szInt64SS_any Ah ch nh h _ HH.out hmh HI.out SH.out).mono ?_
  rintro e w' ⟨⟨v, rfl, hv⟩, rfl⟩
  by_cases hv0 : v < 0
  · clear hv
    go_wp2
    go_ret
    exact ⟨rfl, hB⟩
  · have hsm := hv (by omega)
    clear hv
    go_wp2_with fail
    go_at_call 12
    refine (toInt64SS_any Ah ch h nh _ HH.out hsm SH.out).mono ?_
    rintro e w1 ⟨b1, rfl, _, h1, hb1⟩
    have hB := below_step hB hb1
    clear hb1
    go_wp2_with fail
    go_at_call 15
    refine (group_spec _ _ h nh limit _ HH.out hsm h1).mono ?_
    intro e w2 hout
    obtain ⟨A1, c1, rfl, hb1, o1⟩ := gout_own hout
    have hB := below_step hB hb1
    have z1 := hb1.size
    have y1 := hB.size
    clear hb1 hout h1
    go_wp2_with fail
    go_at_call 12
    refine (toInt64SS_own Ah ch h nh _ HH.out hsm (SH.out.next hB)).mono ?_
    rintro e w3 ⟨gx, us, cs, rfl, hgx, hul, hbx, hrx, hsx, hb1⟩
    have hB := below_step hB hb1
    have o1 := o1.next hb1
    have z2 := hb1.size
    have y2 := hB.size
    clear hb1
    go_wp2_with fail
    go_at_call 16
    refine (group_impl _ _ h nh limit _ HH.out hsm hsx).mono ?_
    intro e w4 hout
    obtain ⟨A2, c2, rfl, hb1, o2⟩ := gout_own hout
    have hB := below_step hB hb1
    have o1 := o1.next hb1
    have hbx := hbx.next hb1
    have hrx := hrx.next hb1
    have hsx := hsx.next hb1
    have z3 := hb1.size
    have y3 := hB.size
    clear hb1 hout
    go_wp2_with fail
    go_at_call 9
    refine (eqInt64S_same _ _ _ _ (groupOut h nh limit).1 _ _ rfl (by unfold maxLen; omega) o2.sl o1.sl).mono ?_
    rintro e w5 ⟨rfl, q5, rfl⟩
    have o1 := o1.drewN q5
    have o2 := o2.drewN q5
    have hrx := hrx.drewN q5
    have hbx := hbx.drewN q5
    have hsx := hsx.drewN q5
    have hB := below_drewN hB q5
    go_wp2_with fail
    go_at_call 12
    refine (toInt64SS_any Ah ch h nh _ HH.out hsm (SH.out.next hB)).mono ?_
    rintro e w6 ⟨b6, rfl, _, h6, hb1⟩
    have hB := below_step hB hb1
    have o1 := o1.next hb1
    have o2 := o2.next hb1
    have hrx := hrx.next hb1
    have hbx := hbx.next hb1
    have hsx := hsx.next hb1
    have z4 := hb1.size
    clear hb1
    go_wp2_with fail
    go_at_call 14
    refine (eqInt64SS_same _ _ _ _ h nh _ HH.out hsm hsx h6).mono ?_
    rintro e w7 ⟨rfl, q7, rfl⟩
    have o1 := o1.drewN q7
    have o2 := o2.drewN q7
    have hrx := hrx.drewN q7
    have hbx := hbx.drewN q7
    have hB := below_drewN hB q7
    clear hsx h6
    go_wp2_with fail
    go_at_call 17
    refine (markInt64SS_own w2.heap.size w3.heap.size gx _ h us cs nh _ hul hsm hbx hrx).mono ?_
    rintro e w8 ⟨⟨k8, rfl, hk8⟩, hw8⟩
    have hzB := hB.size
    have o1 := o1.within hw8 (by omega)
    have o2 := o2.within hw8 (by omega)
    have hB : Below w.heap.size w w8 := hw8.below hB (by omega) hzB
    clear hw8 hrx hbx hzB
    go_wp2_with fail
    go_at_call 9
    refine (eqInt64S_same _ _ _ _ (groupOut h nh limit).1 _ _ rfl (by unfold maxLen; omega) o2.sl o1.sl).mono ?_
    rintro e w9 ⟨rfl, q9, rfl⟩
    have o1 := o1.drewN q9
    have o2 := o2.drewN q9
    have hB := below_drewN hB q9
    go_wp2_with fail
    go_at_call 18
    refine (markInt64S_ownS _ _ _ _ _ _ 1 _ rfl (by omega) (by omega) o2).mono ?_
    rintro e w10 ⟨rfl, o2, hw10⟩
    have hzB := hB.size
    have o1 := o1.within hw10 (by omega)
    have hB : Below w.heap.size w w10 := hw10.below hB (by omega) hzB
    clear hw10 hzB
    go_wp2_with fail
    go_at_call 19
    refine (heldInt64S_same _ _ _ 1 _ (by omega) (by omega) o2.sl).mono ?_
    rintro e w11 ⟨rfl, rfl⟩
    go_wp2_with fail
    go_at_call 12
    refine (toInt64SS_any Ah ch h nh _ HH.out hsm (SH.out.next hB)).mono ?_
    rintro e w12 ⟨b12, rfl, _, h12, hb1⟩
    have hB := below_step hB hb1
    have o1 := o1.next hb1
    have o2 := o2.next hb1
    clear hb1
    go_wp2_with fail
    go_at_call 16
    refine (group_impl _ _ h nh limit _ HH.out hsm h12).mono ?_
    intro e w13 hout
    obtain ⟨A3, c3, rfl, hb1, o3⟩ := gout_own hout
    have hB := below_step hB hb1
    have o1 := o1.next hb1
    have o2 := o2.next hb1
    clear hb1 hout h12
    go_wp2_with fail
    go_at_call 9
    refine (eqInt64S_same _ _ _ _ (groupOut h nh limit).1 _ _ rfl (by unfold maxLen; omega) o3.sl o1.sl).mono ?_
    rintro e w14 ⟨rfl, q14, rfl⟩
    have o2 := o2.drewN q14
    have hB := below_drewN hB q14
    go_wp2_with fail
    go_at_call 19
    refine (heldInt64S_same _ _ _ 1 _ (by omega) (by omega) o2.sl).mono ?_
    rintro e w15 ⟨rfl, rfl⟩
    go_wp2_with fail
    go_ret
    exact ⟨rfl, hB⟩

theorem own : ownKnob Try.prog.godebug = none := by kernel_rfl
theorem laidOut : laidOutB Try.prog = true := by kernel_rfl
set_option maxRecDepth 100000 in
theorem lifted (os : Os) (started : os.Started) (H : Type) (enc : TypeId × Value → H) :
    ReturnsInHanded {} Try.checked os 5 .any (Rows.fnExactGroupHandsSpec.pre6 enc Try.prog Try.f5 Rows.fnExactGroupHandsRow.domain false) (Rows.fnExactGroupHandsSpec.post enc Try.prog Try.f5 false true false false) := by
  refine returnsInHanded_of_change (C := Try.checked) own started (by kernel_rfl) Try.func5
    (ChangeSpec.witness6 (enc := enc) (C := Try.checked) false ⟨#[], #[.slice none 0 0, .int .i64 0], []⟩ 8 (by kernel_rfl) (by kernel_rfl) (by kernel_rfl) (by kernel_rfl)) ?_
  intro W base args ds gs before hval0 hW hcnd _
  have hval : ∀ (j : Nat) t v, Try.f5.params[j]? = some t → args[j]? = some v → Value.okWide Try.prog W .any base t v := hval0
  have hW' := hW
  obtain ⟨p, q, hA0, hV, rfl, hfz, hnd⟩ := hW
  have hA : DataW.TrodAll enc Try.prog W 0 (fun _ => true) true Try.f5.params.toList args.toList ds p := hA0
  rw [Try.params5] at hA hval
  obtain ⟨v0, vs0, d0, ds0, p0, q0, hargs, rfl, rfl, h0, r0⟩ := trodAll_cons hA
  obtain ⟨v1, vs1, d1, ds1, p1, q1, rfl, rfl, rfl, h1, r1⟩ := trodAll_cons r0
  obtain ⟨rfl, rfl, rfl⟩ := trodAll_nil r1
  obtain rfl : args = #[v0, v1] := by cases args; simp_all
  obtain ⟨rfl, rfl⟩ := trodVars_none hV
  have k0 := h0
  have lt0 : ∀ x ∈ p0, x.block < W.heap.size := by obtain ⟨m, hm⟩ := k0; exact DataW.trod_lt m _ _ _ hm
  have k1 := h1
  have lt1 : ∀ x ∈ p1, x.block < W.heap.size := by obtain ⟨m, hm⟩ := k1; exact DataW.trod_lt m _ _ _ hm
  obtain ⟨Ah, ch, h, nh, rfl, hh, mh, ih, sh⟩ := open_i64ss Try.underlying27 Try.underlying22 Try.underlying2 (by kernel_rfl) (by kernel_rfl) (hval 0 27 v0 rfl rfl) h0
  obtain ⟨limit, rfl, rfl, rfl, wlimit⟩ := open_int Try.underlying2 (hval 1 2 v1 rfl rfl) h1
  have blimit := bounds_i64 wlimit
  clear hA0 hval0
  refine (walk Ah ch h nh limit W hh mh ih sh blimit).mono fun e W' ⟨he, bel⟩ => ?_
  subst he
  exact ⟨_, rfl, _, _, _, [], _, [], hW', trodAll_mk1 (shut_bool Try.underlying4 _), (trodAll_cons_mk (Below.trod laidOut (by kernel_rfl) (of_decide_eq_true (by kernel_rfl)) k0 bel lt0) (trodAll_cons_mk (Below.trod laidOut (by kernel_rfl) (of_decide_eq_true (by kernel_rfl)) k1 bel lt1) trodAll_mk0)), by first | rfl | simp, bel.frame _, fun h => by cases h⟩

theorem over : Rows.fnExactGroupHandsRow.holds Try.pinned (OpenSpec.ofChange Rows.fnExactGroupHandsSpec) :=
  OpenClaim.holds_of_wide 5 Try.f5 rfl rfl rfl rfl rfl rfl rfl ⟨rfl, rfl, rfl, rfl, rfl⟩ rfl rfl rfl rfl rfl (by kernel_rfl) Try.func5 (by kernel_rfl)
    (of_decide_eq_true (by kernel_rfl)) (by unfold Func.isWrapper; first | (rw [if_pos (by decide +kernel)]; kernel_rfl) | (rw [if_neg (by decide +kernel)]; exact ⟨rfl, rfl⟩))
    (fun os started H enc _ => lifted os started H enc)

theorem proved : Rows.FnExactGroupHandsSaid := over
#print axioms proved
end Go.Proofs.Ytjgflkoefimmoaa.lawExactGroupHands
