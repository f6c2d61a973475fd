/- The program's RightRoom returns what the reference's returns, for every face, text, width and all breaks, hands back memory of its own, and the face and the breaks stay as they were. What the library's tables hold is tied to the program's text. -/
import Derived.Test.YtbccbfejiihjjaaGreatDoorRows
import Derived.Test.YtbccbfejiihjjaaGreatDoorGE
import Derived.Test.YtbccbfejiihjjaaGreatDoorBkE
import Derived.Test.YtbccbfejiihjjaaGreatDoorGB
import Derived.Test.YtbccbfejiihjjaaGreatDoorGC
import Derived.Test.YtbccbfejiihjjaaGreatDoorGA
import Derived.Test.YtbccbfejiihjjaaGreatDoorCards
import Derived.Test.YtbccbfejiihjjaaGreatDoorTie
import Derived.Lay
import Derived.LaidMore
import Derived.SevenTiedAt
import Derived.Stop.Joined
import Derived.Deep.DeepHandedRow






namespace Go.Proofs.YtbccbfejiihjjaaGreatDoor.lawExactRightRoom
open Go Go.RowKit Go.ChangeShapes Go.WideShapes Go.ChangeAt Go.Proofs.YtbccbfejiihjjaaGreatDoor
open Go.ChangeMaps (open_string shut_string)
set_option linter.unusedVariables false
set_option linter.unusedSimpArgs false

attribute [local irreducible] wpAnyH in
set_option maxHeartbeats 4000000 in
set_option maxRecDepth 100000 in
theorem walk (f : Fc) (Af : Option Addr) (cf nf : Nat) (s : ByteArray) (m : Int) (Ax : Option Addr) (cx : Nat) (x : List Int) (nx : Nat) (w : World) (hf : FcT f) (kf : f.pairs.length = nf) (mf : nf ≤ maxLen) (sf : SlP w Af f.pairs) (hs : s.size ≤ 9223372036854775807) (bm : -9223372036854775808 ≤ m ∧ m ≤ 9223372036854775807) (hx : x.length = nx) (mx : nx ≤ maxLen) (sx : SlE i64 w Ax x) (hmx : MaxW w) (hsp : SpT w) :
    Calls Tryz.prog 3 #[.agg (fcV f (.slice Af nf cf)).toArray, .string s, .int .i64 m, .slice Ax nx cx] w fun e w' => e = .returned (.bool true) ∧ Below w.heap.size w w' := by
  have hB := below_one w (.cells (fcV f (.slice Af nf cf)).toArray 26)
  have hkL := Blk.new w 26 (fcV f (.slice Af nf cf))
  have HS := Lib.hid sf
  have HN := Lib.hid kf
  have HF := Lib.hid hf
  have HM := Lib.hid hmx
  have HP := Lib.hid hsp
  have HLx := Lib.hid hx
  have HSx := Lib.hid sx
  unfold maxLen at mx
  have hsz : ∀ S : Value, (fcV f S).toArray.size = 29 := fun S => by simp [fcV_length hf]
  have ZL := Lib.hid (fun S : Value => show (Tryz.prog.info? 26).map (·.size) = some (fcV f S).toArray.size by rw [hsz]; exact szFcL)
  have ZI := Lib.hid (fun S : Value => show (Tryz.prog.info? 33).map (·.size) = some (fcV f S).toArray.size by rw [hsz]; exact szFcI)
  have ZO := Lib.hid (fun S : Value => (hsz S).symm)
  clear sf kf hf hmx hsp hsz hx sx
  by_cases ls : (s.size : Int) > 1048576
  · clear hkL
    go_enter Tryz.func3, Tryz.ntmps3
    go_wp2
    go_ret
    exact ⟨rfl, hB⟩
  · have hs20 : s.size ≤ 1048576 := by omega
    by_cases lx : (nx : Int) > 1048576
    · clear hkL
      go_enter Tryz.func3, Tryz.ntmps3
      go_wp2
      go_ret
      exact ⟨rfl, hB⟩
    · have hx20 : nx ≤ 1048576 := by omega
      have hlen := rrOut_len f (bs s) m x
      go_enter Tryz.func3, Tryz.ntmps3
      go_wp2_with (refine wpList_load_row rfl 26 (.tmp 4) rfl _ rfl 26 (fcV f (.slice Af nf cf)).toArray _ _ hkL Tryz.underlying26 rfl (ZL.out _) ?_)
      obtain ⟨b0, hb0⟩ : ∃ b0, b0 = w.heap.size := ⟨_, rfl⟩
      have hbw : w.heap.size ≤ b0 := by omega
      rw [← hb0] at hkL ⊢
      clear hb0
      generalize w.alloc (.cells (fcV f (.slice Af nf cf)).toArray 26) = W0 at *
      have hb0l := hkL.lt
      go_at_call 5
      refine (szFace_any f Af nf cf 1048576 _ HF.out mf (by omega)).mono ?_
      rintro e w1 ⟨⟨v, rfl, _, hv⟩, hb⟩
      have hB := below_step hB hb
      have hkL := hkL.next hb
      have z1 := hb.size
      clear hb
      have HV := Lib.hid hv
      clear hv
      by_cases hv0 : v < 0
      · clear hkL
        go_wp2
        go_ret
        exact ⟨rfl, hB⟩
      · have hsm : nf ≤ 1048576 := by have := HV.out (by omega); omega
        clear HV mf
        go_wp2_with (refine wpList_load_row rfl 26 (.tmp 4) rfl _ rfl 26 (fcV f (.slice Af nf cf)).toArray _ _ hkL Tryz.underlying26 rfl (ZL.out _) ?_)
        go_at_call 7
        refine (toFace_any f Af nf cf _ HF.out HN.out hsm (HS.out.next hB)).mono ?_
        rintro e w2 ⟨g1, csg1, rfl, hg10, hg1, hb⟩
        have hB := below_step hB hb
        have hkL := hkL.next hb
        have z2 := hb.size
        clear hb
        have lg1 := hg1.lt
        go_wp2_with fail
        go_at_call 8
        refine (toInt64S_any Ax cx x nx _ HLx.out (by omega) (HSx.out.next hB)).mono ?_
        rintro e w3 ⟨rx, csrx, rfl, hrx0, hrx, hb⟩
        have hB := below_step hB hb
        have hkL := hkL.next hb
        have hg1 := hg1.next hb
        have z3 := hb.size
        clear hb
        have lrx := hrx.lt
        go_wp2_with fail
        go_at_call 6
        refine (right_spec f _ _ nf nf nx nx s m x _ HF.out HN.out hsm hs20 HLx.out hx20 (SlP.of_blk hg1) (SlE.of_row hrx.head)).mono ?_
        rintro e w4 ⟨A1, c1, rfl, hb, o1⟩
        have hB := below_step hB hb
        have hkL := hkL.next hb
        have hg1 := hg1.next hb
        have hrx := hrx.next hb
        have z4 := hb.size
        clear hb
        clear hg1 hrx
        go_wp2_with (refine wpList_load_row rfl 26 (.tmp 4) rfl _ rfl 26 (fcV f (.slice Af nf cf)).toArray _ _ hkL Tryz.underlying26 rfl (ZL.out _) ?_)
        go_at_call 7
        refine (toFace_any f Af nf cf _ HF.out HN.out hsm (HS.out.next hB)).mono ?_
        rintro e w5 ⟨gx, csgx, rfl, hgx0, hgx, hb⟩
        have hB := below_step hB hb
        have hkL := hkL.next hb
        have o1 := o1.next hb
        have z5 := hb.size
        clear hb
        have lgx := hgx.lt
        have hX := Blk.new w5 33 (fcV f (.slice (some ⟨gx, 0, none⟩) nf nf))
        have hb := below_one w5 (.cells (fcV f (.slice (some ⟨gx, 0, none⟩) nf nf)).toArray 33)
        have hB2 := below_step hB hb
        have hkLN := hkL.next hb
        have o1N := o1.next hb
        have hgxN := hgx.next hb
        clear hb
        go_wp2_with (refine wpList_store_new rfl 33 _ _ rfl (fcV f (.slice (some ⟨gx, 0, none⟩) nf nf)).toArray rfl rfl 33 _ (ZI.out _) (ZO.out _) (one_fc _ _ _ _) ?_)
        have zx : (w5.alloc (.cells (fcV f (.slice (some ⟨gx, 0, none⟩) nf nf)).toArray 33)).heap.size = w5.heap.size + 1 := by simp
        generalize w5.alloc (.cells (fcV f (.slice (some ⟨gx, 0, none⟩) nf nf)).toArray 33) = WX at *
        have hB := hB2
        have hkL := hkLN
        have o1 := o1N
        have hgx := hgxN
        clear hB2 hkLN o1N hgxN
        go_at_call 8
        refine (toInt64S_any Ax cx x nx _ HLx.out (by omega) (HSx.out.next hB)).mono ?_
        rintro e w6 ⟨px, cspx, rfl, hpx0, hpx, hb⟩
        have hB := below_step hB hb
        have hkL := hkL.next hb
        have o1 := o1.next hb
        have hgx := hgx.next hb
        have hX := hX.next hb
        have z6 := hb.size
        clear hb
        have lpx := hpx.lt
        go_wp2_with (refine wpList_load_row rfl 33 (.tmp 12) rfl _ rfl 33 (fcV f (.slice (some ⟨gx, 0, none⟩) nf nf)).toArray _ _ hX Tryz.underlying33 rfl (ZI.out _) ?_)
        go_at_call 9
        refine ((right_impl f _ _ nf nf nx nx s m x _ HF.out HN.out hsm hs20 HLx.out hx20 (SlP.of_blk hgx) (HM.out.next hB) (HP.out.next hB) (SlE.of_row hpx.head)).mono (fun _ _ h => h.out)).mono ?_
        rintro e w7 ⟨A2, c2, rfl, hb, o2⟩
        have hB := below_step hB hb
        have hkL := hkL.next hb
        have o1 := o1.next hb
        have hgx := hgx.next hb
        have hX := hX.next hb
        have hpx := hpx.next hb
        have z7 := hb.size
        clear hb
        have nc1 : ((rrOut f (bs s) m x).2 != (rrOut f (bs s) m x).2) = false := by simp
        go_wp2_with fail
        go_at_call 10
        refine (eqInt64S_same _ _ _ _ ((rrOut f (bs s) m x).1) _ _ rfl (by unfold maxLen; omega) o2.sl o1.sl).mono ?_
        rintro e w8 ⟨rfl, q8, rfl⟩
        have hB := below_drewN hB q8
        have hkL := hkL.drewN q8
        have o1 := o1.drewN q8
        have hgx := hgx.drewN q8
        have hX := hX.drewN q8
        have hpx := hpx.drewN q8
        have o2 := o2.drewN q8
        have z8 : (World.drewN w7 q8).heap.size = w7.heap.size := rfl
        generalize World.drewN w7 q8 = W8 at *
        go_wp2_with fail
        refine held_begin (W8.heap.size) (by kernel_rfl) ?_
        have hS := below_drewN (Below.refl (W8.heap.size) W8) 1
        refine held_take 0 (.agg (fcV f (.slice (some ⟨gx, 0, none⟩) nf nf)).toArray) rfl (by kernel_rfl) (by kernel_rfl) (by kernel_rfl) (fun _ _ _ h => h) (by kernel_rfl) (fun w' hw' => exec_load_row 33 (.tmp 12) rfl (w5.heap.size) (by kernel_rfl) 33 (fcV f (.slice (some ⟨gx, 0, none⟩) nf nf)).toArray _ _ (hX.next hw') Tryz.underlying33 rfl (ZI.out _)) hS ?_
        refine held_take 1 (.agg (fcV f (.slice Af nf cf)).toArray) rfl (by kernel_rfl) (by kernel_rfl) (by kernel_rfl) (fun _ _ _ h => h) (by kernel_rfl) (fun w' hw' => exec_load_row 26 (.tmp 4) rfl (b0) (by kernel_rfl) 26 (fcV f (.slice Af nf cf)).toArray _ _ (hkL.next hw') Tryz.underlying26 rfl (ZL.out _)) hS ?_
        refine held_call 2 7 #[.agg (fcV f (.slice Af nf cf)).toArray] rfl (by kernel_rfl) (by kernel_rfl) (by kernel_rfl) ?_
        refine (toFace_any f Af nf cf _ HF.out HN.out hsm (HS.out.next (below_step hB hS))).mono ?_
        rintro e w1 ⟨g3, cs3, rfl, _, hg3, hb⟩
        have hS := below_step hS hb
        refine ⟨_, rfl, hS, ?_⟩
        refine held_call 3 11 #[.agg (fcV f (.slice (some ⟨gx, 0, none⟩) nf nf)).toArray, .agg (fcV f (.slice (some ⟨g3, 0, none⟩) nf nf)).toArray] rfl (by kernel_rfl) (by kernel_rfl) (by kernel_rfl) ?_
        refine (eqFace_same f _ _ nf nf nf _ HF.out HN.out hsm (SlP.of_blk (hgx.next hS)) (SlP.of_blk hg3)).mono ?_
        rintro e w1 ⟨rfl, hb⟩
        have hS := below_step hS hb
        refine ⟨_, rfl, hS, ?_⟩
        refine held_take 4 (.bool false) rfl (by kernel_rfl) (by kernel_rfl) (by kernel_rfl) (fun _ _ _ h => h) (by kernel_rfl) (fun w' hw' => by kernel_rfl) hS ?_
        refine held_done (by kernel_rfl) ?_
        simp only [Act.put, List.setIfInBounds_toArray, List.set_cons_succ, List.set_cons_zero]
        have hB := below_step hB hS
        have hkL := hkL.next hS
        have o1 := o1.next hS
        have hgx := hgx.next hS
        have hX := hX.next hS
        have hpx := hpx.next hS
        have o2 := o2.next hS
        have z9 := hS.size
        clear hb hg3 hS
        go_wp2_with fail
        go_at_call 8
        refine (toInt64S_any Ax cx x nx _ HLx.out (by omega) (HSx.out.next hB)).mono ?_
        rintro e w10 ⟨ex, csex, rfl, _, hex, hb⟩
        have hB := below_step hB hb
        have hkL := hkL.next hb
        have o1 := o1.next hb
        have hgx := hgx.next hb
        have hX := hX.next hb
        have hpx := hpx.next hb
        have o2 := o2.next hb
        have z10 := hb.size
        clear hb
        go_wp2_with fail
        go_at_call 10
        refine (eqInt64S_same _ _ _ _ x nx _ HLx.out (by unfold maxLen; omega) (SlE.of_row hpx.head) (SlE.of_row hex.head)).mono ?_
        rintro e w11 ⟨rfl, q11, rfl⟩
        have hB := below_drewN hB q11
        have hkL := hkL.drewN q11
        have o1 := o1.drewN q11
        have hgx := hgx.drewN q11
        have hX := hX.drewN q11
        have hpx := hpx.drewN q11
        have o2 := o2.drewN q11
        have hex := hex.drewN q11
        have z11 : (World.drewN w10 q11).heap.size = w10.heap.size := rfl
        generalize World.drewN w10 q11 = W11 at *
        clear hex
        go_wp2_with (refine wpList_load_row rfl 33 (.tmp 12) rfl _ rfl 33 (fcV f (.slice (some ⟨gx, 0, none⟩) nf nf)).toArray _ _ hX Tryz.underlying33 rfl (ZI.out _) ?_)
        go_at_call 12
        refine (markFace_own gx (gx + 1) gx nf nf f csgx _ HF.out HN.out hsm (Nat.le_refl _) (Nat.lt_succ_self _) ?_ hgx).mono ?_
        · have := hX.lt; omega
        rintro e w12 ⟨⟨k12, rfl, hk12, hkU12⟩, hw12⟩
        have hzB := hB.size
        clear hX hgx
        have hkL := hkL.within hw12 (by omega)
        have o1 := o1.within hw12 (by omega)
        have hpx := hpx.within hw12 (by omega)
        have o2 := o2.within hw12 (by omega)
        have hB : Below w.heap.size w w12 := hw12.below hB (by omega) hzB
        have z12 := hw12.size
        clear hw12 hzB
        go_wp2_with fail
        go_at_call 13
        refine (markInt64S_own px nx 2 _ nx _ _ (by simp [HLx.out]) (by omega) (by omega) hpx).mono ?_
        rintro e w13 ⟨rfl, _, hgr⟩
        have hw13 := Within.of_grown hgr (Nat.le_refl _) (Nat.lt_succ_self _)
        have hzB := hB.size
        clear hgr hpx
        have hkL := hkL.within hw13 (by omega)
        have o1 := o1.within hw13 (by omega)
        have o2 := o2.within hw13 (by omega)
        have hB : Below w.heap.size w w13 := hw13.below hB (by omega) hzB
        have z13 := hw13.size
        clear hw13 hzB
        go_wp2_with fail
        go_at_call 10
        refine (eqInt64S_same _ _ _ _ ((rrOut f (bs s) m x).1) _ _ rfl (by unfold maxLen; omega) o2.sl o1.sl).mono ?_
        rintro e w14 ⟨rfl, q14, rfl⟩
        have hB := below_drewN hB q14
        have hkL := hkL.drewN q14
        have o1 := o1.drewN q14
        have o2 := o2.drewN q14
        have z14 : (World.drewN w13 q14).heap.size = w13.heap.size := rfl
        generalize World.drewN w13 q14 = W14 at *
        go_wp2_with fail
        go_at_call 13
        refine (markInt64S_ownS _ _ _ _ _ _ 1 _ rfl (by omega) (by omega) o2).mono ?_
        rintro e w15 ⟨rfl, o2, hw15⟩
        have hzB := hB.size
        have hkL := hkL.within hw15 (by omega)
        have o1 := o1.within hw15 (by omega)
        have hB : Below w.heap.size w w15 := hw15.below hB (by omega) hzB
        have z15 := hw15.size
        clear hw15 hzB
        go_wp2_with fail
        go_at_call 14
        refine (heldInt64S_same _ _ _ 1 _ (by omega) (by omega) o2.sl).mono ?_
        rintro e w15h ⟨rfl, rfl⟩
        go_wp2_with (refine wpList_load_row rfl 26 (.tmp 4) rfl _ rfl 26 (fcV f (.slice Af nf cf)).toArray _ _ hkL Tryz.underlying26 rfl (ZL.out _) ?_)
        go_at_call 7
        refine (toFace_any f Af nf cf _ HF.out HN.out hsm (HS.out.next hB)).mono ?_
        rintro e w16 ⟨g4, csg4, rfl, hg40, hg4, hb⟩
        have hB := below_step hB hb
        have hkL := hkL.next hb
        have o1 := o1.next hb
        have o2 := o2.next hb
        have z16 := hb.size
        clear hb
        have lg4 := hg4.lt
        go_wp2_with fail
        go_at_call 8
        refine (toInt64S_any Ax cx x nx _ HLx.out (by omega) (HSx.out.next hB)).mono ?_
        rintro e w17 ⟨tx, cstx, rfl, htx0, htx, hb⟩
        have hB := below_step hB hb
        have hkL := hkL.next hb
        have o1 := o1.next hb
        have o2 := o2.next hb
        have hg4 := hg4.next hb
        have z17 := hb.size
        clear hb
        have ltx := htx.lt
        go_wp2_with fail
        clear hkL
        go_at_call 9
        refine ((right_impl f _ _ nf nf nx nx s m x _ HF.out HN.out hsm hs20 HLx.out hx20 (SlP.of_blk hg4) (HM.out.next hB) (HP.out.next hB) (SlE.of_row htx.head)).mono (fun _ _ h => h.out)).mono ?_
        rintro e w18 ⟨A3, c3, rfl, hb, o3⟩
        have hB := below_step hB hb
        have o1 := o1.next hb
        have o2 := o2.next hb
        have hg4 := hg4.next hb
        have htx := htx.next hb
        have z18 := hb.size
        clear hb
        clear hg4 htx
        go_wp2_with fail
        go_at_call 10
        refine (eqInt64S_same _ _ _ _ ((rrOut f (bs s) m x).1) _ _ rfl (by unfold maxLen; omega) o3.sl o1.sl).mono ?_
        rintro e w19 ⟨rfl, q19, rfl⟩
        have hB := below_drewN hB q19
        have o1 := o1.drewN q19
        have o2 := o2.drewN q19
        have o3 := o3.drewN q19
        have z19 : (World.drewN w18 q19).heap.size = w18.heap.size := rfl
        generalize World.drewN w18 q19 = W19 at *
        go_wp2_with fail
        go_at_call 14
        refine (heldInt64S_same _ _ _ 1 _ (by omega) (by omega) o2.sl).mono ?_
        rintro e w19h ⟨rfl, rfl⟩
        go_wp2_with fail
        go_ret
        exact ⟨rfl, hB⟩

theorem own : ownKnob Tryz.prog.godebug = none := by kernel_rfl
theorem laidOut : laidOutB Tryz.prog = true := by kernel_rfl
set_option maxRecDepth 100000 in
theorem reads (os : Os) {H : Type} (enc : TypeId × Value → H) : (DataW.whole enc Tryz.prog ((World.laidAll Tryz.prog os Rows.fnExactRightRoomRow.laid).forCall (fun _ _ => 0) ⟨#[], #[.agg #[.int .i8 0, .int .i8 0, .int .i8 0, .int .i8 0, .int .i8 0, .int .i8 0, .int .i8 0, .int .i8 0, .int .i8 0, .int .i8 0, .int .i8 0, .int .i8 0, .int .i8 0, .int .i8 0, .int .i8 0, .int .i8 0, .int .i8 0, .int .i8 0, .int .i8 0, .int .i8 0, .int .i8 0, .int .i8 0, .int .i8 0, .int .i8 0, .int .i8 0, .int .i8 0, .int .i8 0, .int .i8 0, .slice none 0 0], .string ⟨#[]⟩, .int .i64 0, .slice none 0 0], []⟩).memory Tryz.f3.params.toList Rows.fnExactRightRoomSpec.vars false (#[.agg #[.int .i8 0, .int .i8 0, .int .i8 0, .int .i8 0, .int .i8 0, .int .i8 0, .int .i8 0, .int .i8 0, .int .i8 0, .int .i8 0, .int .i8 0, .int .i8 0, .int .i8 0, .int .i8 0, .int .i8 0, .int .i8 0, .int .i8 0, .int .i8 0, .int .i8 0, .int .i8 0, .int .i8 0, .int .i8 0, .int .i8 0, .int .i8 0, .int .i8 0, .int .i8 0, .int .i8 0, .int .i8 0, .slice none 0 0], .string ⟨#[]⟩, .int .i64 0, .slice none 0 0] : Array Value).toList 8).map (fun x => (x.1, x.2.1)) = some ([.agg [.agg [.lit (.int .i8 0), .lit (.int .i8 0), .lit (.int .i8 0), .lit (.int .i8 0), .lit (.int .i8 0), .lit (.int .i8 0), .lit (.int .i8 0), .lit (.int .i8 0), .lit (.int .i8 0), .lit (.int .i8 0), .lit (.int .i8 0), .lit (.int .i8 0), .lit (.int .i8 0), .lit (.int .i8 0), .lit (.int .i8 0), .lit (.int .i8 0), .lit (.int .i8 0), .lit (.int .i8 0), .lit (.int .i8 0), .lit (.int .i8 0), .lit (.int .i8 0), .lit (.int .i8 0), .lit (.int .i8 0), .lit (.int .i8 0), .lit (.int .i8 0), .lit (.int .i8 0)], .lit (.int .i8 0), .lit (.int .i8 0), .nil], .lit (.string []), .lit (.int .i64 0), .nil], []) := by kernel_rfl
set_option maxRecDepth 100000 in
theorem witness (os : Os) {H : Type} (enc : TypeId × Value → H) : ∃ (w : World) (tape : Tape) (i : Input), w.os = os ∧ (w.forCall tape i).Shaped Tryz.prog ∧ i.vars = [] ∧ Input.okWide Tryz.prog (w.forCall tape i) .any w.heap.size 3 i ∧
    (OpenSpec.ofChange Rows.fnExactRightRoomSpec).preRow enc Tryz.prog Tryz.f3 Rows.fnExactRightRoomRow.domain false Rows.fnExactRightRoomRow.laid (w.forCall tape i).memory i.args ∧ ({} : Assume).holds Tryz.prog (lone (Frame.enter Tryz.prog 3 i.args .normal) [] (w.forCall tape i)) := by
  obtain ⟨⟨x1, x2, x3⟩, hx, hx1⟩ := Option.map_eq_some_iff.1 (reads os enc)
  simp only [Prod.mk.injEq] at hx1
  obtain ⟨rfl, rfl⟩ := hx1
  have hok : Input.okWideB Tryz.prog ((World.laidAll Tryz.prog os Rows.fnExactRightRoomRow.laid).forCall (fun _ _ => 0) ⟨#[], #[.agg #[.int .i8 0, .int .i8 0, .int .i8 0, .int .i8 0, .int .i8 0, .int .i8 0, .int .i8 0, .int .i8 0, .int .i8 0, .int .i8 0, .int .i8 0, .int .i8 0, .int .i8 0, .int .i8 0, .int .i8 0, .int .i8 0, .int .i8 0, .int .i8 0, .int .i8 0, .int .i8 0, .int .i8 0, .int .i8 0, .int .i8 0, .int .i8 0, .int .i8 0, .int .i8 0, .int .i8 0, .int .i8 0, .slice none 0 0], .string ⟨#[]⟩, .int .i64 0, .slice none 0 0], []⟩) 3 ⟨#[], #[.agg #[.int .i8 0, .int .i8 0, .int .i8 0, .int .i8 0, .int .i8 0, .int .i8 0, .int .i8 0, .int .i8 0, .int .i8 0, .int .i8 0, .int .i8 0, .int .i8 0, .int .i8 0, .int .i8 0, .int .i8 0, .int .i8 0, .int .i8 0, .int .i8 0, .int .i8 0, .int .i8 0, .int .i8 0, .int .i8 0, .int .i8 0, .int .i8 0, .int .i8 0, .int .i8 0, .int .i8 0, .int .i8 0, .slice none 0 0], .string ⟨#[]⟩, .int .i64 0, .slice none 0 0], []⟩ = true := by kernel_rfl
  exact ⟨(World.laidAll Tryz.prog os Rows.fnExactRightRoomRow.laid), fun _ _ => 0, ⟨#[], #[.agg #[.int .i8 0, .int .i8 0, .int .i8 0, .int .i8 0, .int .i8 0, .int .i8 0, .int .i8 0, .int .i8 0, .int .i8 0, .int .i8 0, .int .i8 0, .int .i8 0, .int .i8 0, .int .i8 0, .int .i8 0, .int .i8 0, .int .i8 0, .int .i8 0, .int .i8 0, .int .i8 0, .int .i8 0, .int .i8 0, .int .i8 0, .int .i8 0, .int .i8 0, .int .i8 0, .int .i8 0, .int .i8 0, .slice none 0 0], .string ⟨#[]⟩, .int .i64 0, .slice none 0 0], []⟩, World.laidAll_os _ _ _, World.shaped_of_ZipB (by kernel_rfl) (by kernel_rfl), (Input.okWide_of_okWideB (base := 0) hok).1, (Input.okWide_of_okWideB hok).2,
    OpenSpec.preRow_of_cond 8 hx (by kernel_rfl) (fun k hk => by cases hk) (by kernel_rfl) (by rw [MakeChecks.laidMetH_plain _ _ _ (by kernel_rfl)]; exact laidMet_laidAll _ (by kernel_rfl) (by kernel_rfl)), by
      simp only [Assume.holds]
      exact ⟨by simp, by simp, by simp, by simp, by simp⟩⟩
set_option maxRecDepth 100000 in
theorem lifted (os : Os) (started : os.Started) (H : Type) (enc : TypeId × Value → H) (F : Stop.Interp) :
    ReturnsInHanded {} Tryz.checked os 3 .any ((OpenSpec.ofChange Rows.fnExactRightRoomSpec).preRow enc Tryz.prog Tryz.f3 Rows.fnExactRightRoomRow.domain false Rows.fnExactRightRoomRow.laid) (((OpenSpec.ofChange Rows.fnExactRightRoomSpec).at F).post enc Tryz.prog Tryz.f3 false true false false) := by
  refine returnsInHanded_of_row (C := Tryz.checked) (s := OpenSpec.ofChange Rows.fnExactRightRoomSpec) own started (by kernel_rfl) Tryz.func3 (witness os enc) ?_
  intro W base args ds gs before hval0 hW _ _ _ hL hsh _
  have hval : ∀ (j : Nat) t v, Tryz.f3.params[j]? = some t → args[j]? = some v → Value.okWide Tryz.prog W .any base t v := hval0
  have hW' := hW
  obtain ⟨p, q, hA0, hV, rfl, hfz, hnd⟩ := hW
  have hA : DataW.TrodAll enc Tryz.prog W 0 (fun _ => true) true Tryz.f3.params.toList args.toList ds p := hA0
  rw [Tryz.params3] at hA hval
  obtain ⟨v0, vs0, d0, ds0, p0, q0, hargs, rfl, rfl, h0, r0⟩ := trodAll_cons hA
  obtain ⟨v1, vs1, d1, ds1, p1, q1, rfl, rfl, rfl, h1, r1⟩ := trodAll_cons r0
  obtain ⟨v2, vs2, d2, ds2, p2, q2, rfl, rfl, rfl, h2, r2⟩ := trodAll_cons r1
  obtain ⟨v3, vs3, d3, ds3, p3, q3, rfl, rfl, rfl, h3, r3⟩ := trodAll_cons r2
  obtain ⟨rfl, rfl, rfl⟩ := trodAll_nil r3
  obtain rfl : args = #[v0, v1, v2, v3] := by cases args; simp_all
  obtain ⟨rfl, rfl⟩ := trodVars_none hV
  have k0 := h0
  have lt0 : ∀ x ∈ p0, x.block < W.heap.size := by obtain ⟨m, hm⟩ := k0; exact DataW.trod_lt m _ _ _ hm
  have k1 := h1
  have lt1 : ∀ x ∈ p1, x.block < W.heap.size := by obtain ⟨m, hm⟩ := k1; exact DataW.trod_lt m _ _ _ hm
  have k2 := h2
  have lt2 : ∀ x ∈ p2, x.block < W.heap.size := by obtain ⟨m, hm⟩ := k2; exact DataW.trod_lt m _ _ _ hm
  have k3 := h3
  have lt3 : ∀ x ∈ p3, x.block < W.heap.size := by obtain ⟨m, hm⟩ := k3; exact DataW.trod_lt m _ _ _ hm
  obtain ⟨f, Af, cf, nf, rfl, hf, kf, mf, sf⟩ := open_face (hval 0 26 v0 rfl rfl) h0
  obtain ⟨s, rfl, rfl, rfl, hs⟩ := open_string Tryz.underlying9 (hval 1 9 v1 rfl rfl) h1
  unfold maxLen at hs
  obtain ⟨m, rfl, rfl, rfl, wm⟩ := open_int Tryz.underlying2 (hval 2 2 v2 rfl rfl) h2
  have bm := bounds_i64 wm
  obtain ⟨Ax, cx, x, nx, rfl, hx, mx, sx⟩ := open_i64s Tryz.underlying27 Tryz.underlying2 (by kernel_rfl) (hval 3 27 v3 rfl rfl) h3
  have emx := maxW_of hsh
  have esp := spT_of (l := Rows.fnExactRightRoomRow.laid) (by kernel_rfl) hL
  clear hA0 hval0
  refine (walk f Af cf nf s m Ax cx x nx W hf kf mf sf hs bm hx mx sx emx esp).mono fun e W' ⟨he, bel⟩ => ?_
  subst he
  exact ⟨_, rfl, _, _, _, [], _, [], hW', trodAll_mk1 (shut_bool Tryz.underlying4 _), (trodAll_cons_mk (Below.trod laidOut (by kernel_rfl) (of_decide_eq_true (by kernel_rfl)) k0 bel lt0) (trodAll_cons_mk (Below.trod laidOut (by kernel_rfl) (of_decide_eq_true (by kernel_rfl)) k1 bel lt1) (trodAll_cons_mk (Below.trod laidOut (by kernel_rfl) (of_decide_eq_true (by kernel_rfl)) k2 bel lt2) (trodAll_cons_mk (Below.trod laidOut (by kernel_rfl) (of_decide_eq_true (by kernel_rfl)) k3 bel lt3) trodAll_mk0)))), by first | rfl | simp, bel.frame _, fun h => by cases h⟩

theorem said : Rows.FnExactRightRoomSaid :=
  OpenClaim.holds_of_cond 3 Tryz.f3 rfl rfl rfl rfl rfl rfl rfl ⟨rfl, rfl, rfl, rfl, rfl⟩ rfl rfl rfl rfl rfl (by kernel_rfl) Tryz.func3 (by kernel_rfl)
    (of_decide_eq_true (by kernel_rfl)) (by unfold Func.isWrapper; first | (rw [if_pos (by decide +kernel)]; kernel_rfl) | (rw [if_neg (by decide +kernel)]; exact ⟨rfl, rfl⟩))
    (fun os started H enc _ F => by rw [OpenClaim.pre_eq_preRow]; exact lifted os started H enc F)
theorem plain (f : FuncId) (fn : Func) (hf : Tryz.pinned.checked.prog.funcNamed "loop.example/g01398/laws.FnExactRightRoom" = some f) (hfn : Tryz.pinned.checked.prog.funcs[f]? = some fn) :
    false = Tryz.pinned.checked.prog.looks [] ∧ ∀ (j : Nat) t, fn.params[j]? = some t → Tryz.pinned.checked.prog.wantsStandIn t = false := by
  obtain rfl : f = 3 := Option.some.inj ((show Tryz.prog.funcNamed "loop.example/g01398/laws.FnExactRightRoom" = some 3 by kernel_rfl).symm.trans hf) |>.symm
  obtain rfl : fn = Tryz.f3 := (Option.some.inj (Tryz.func3.symm.trans hfn)).symm
  refine ⟨by kernel_rfl, fun j t ht => ?_⟩
  rw [Tryz.params3] at ht
  have hm : t ∈ [26, 9, 2, 27] := by simpa using Array.mem_of_getElem? ht
  have hall : ([26, 9, 2, 27].all fun u => !Tryz.prog.wantsStandIn u) = true := by kernel_rfl
  exact (show Tryz.prog.wantsStandIn t = false by simpa using List.all_eq_true.1 hall t hm)
theorem proved : Rows.FnExactRightRoomCardSaid :=
  Claim7.holds_tied_plain_at .later [] _ _ _ _ said (fun _ h => by cases h) (by kernel_rfl) (fun _ h => by cases h) fnExactRightRoom_row_tie rfl ⟨rfl, rfl⟩ (by kernel_rfl) rfl plain (by kernel_rfl)
#print axioms proved
end Go.Proofs.YtbccbfejiihjjaaGreatDoor.lawExactRightRoom
