/- The program's FewestShorts returns what the reference's returns, for every face, every text, all shorts and every width, hands back memory of its own, and the face and the shorts stay as they were. What the library's tables hold is tied to the program's text. -/
import Derived.Test.YtnlnjpdnhdmndaaGreatDoorRows
import Derived.Test.YtnlnjpdnhdmndaaGreatDoorGE
import Derived.Test.YtnlnjpdnhdmndaaGreatDoorSoL
import Derived.Test.YtnlnjpdnhdmndaaGreatDoorOpenSo
import Derived.Test.YtnlnjpdnhdmndaaGreatDoorGB
import Derived.Test.YtnlnjpdnhdmndaaGreatDoorGC
import Derived.Test.YtnlnjpdnhdmndaaGreatDoorGA
import Derived.Test.YtnlnjpdnhdmndaaGreatDoorGF
import Derived.Test.YtnlnjpdnhdmndaaGreatDoorCards
import Derived.Test.YtnlnjpdnhdmndaaGreatDoorTie
import Derived.Lay
import Derived.LaidMore
import Derived.SevenTiedAt
import Derived.Stop.Joined
import Derived.Deep.DeepHandedRow






namespace Go.Proofs.YtnlnjpdnhdmndaaGreatDoor.lawExactFewestShorts
open Go Go.RowKit Go.ChangeShapes Go.WideShapes Go.ChangeAt Go.Proofs.YtnlnjpdnhdmndaaGreatDoor
open Go.ChangeMaps (open_string shut_string)
set_option linter.unusedVariables false
set_option linter.unusedSimpArgs false

attribute [local irreducible] wpAnyH in
set_option maxHeartbeats 4000000 in
set_option maxRecDepth 100000 in
theorem walk (f : Fc) (Af : Option Addr) (cf nf : Nat) (s : ByteArray) (Ax : Option Addr) (cx : Nat) (x : List Sr) (nx : Nat) (m : Int) (w : World) (hf : FcT f) (kf : f.pairs.length = nf) (mf : nf ≤ maxLen) (sf : SlP w Af f.pairs) (hs : s.size ≤ 9223372036854775807) (hx : x.length = nx) (mx : nx ≤ maxLen) (sx : SlR w Ax x) (dx : SrB x 9223372036854775807) (bm : -9223372036854775808 ≤ m ∧ m ≤ 9223372036854775807) (hmx : MaxW w) (hsp : SpT w) :
    Calls Tryz.prog 3 #[.agg (fcV f (.slice Af nf cf)).toArray, .string s, .slice Ax nx cx, .int .i64 m] w fun e w' => e = .returned (.bool true) ∧ Below w.heap.size w w' := by
  have hB := below_one w (.cells (fcV f (.slice Af nf cf)).toArray 26)
  have hkL := Blk.new w 26 (fcV f (.slice Af nf cf))
  have HS := Lib.hid sf
  have HN := Lib.hid kf
  have HF := Lib.hid hf
  have HM := Lib.hid hmx
  have HP := Lib.hid hsp
  have HLx := Lib.hid hx
  have HSx := Lib.hid sx
  have HDx := Lib.hid dx
  clear dx
  have hsz : ∀ S : Value, (fcV f S).toArray.size = 29 := fun S => by simp [fcV_length hf]
  have ZL := Lib.hid (fun S : Value => show (Tryz.prog.info? 26).map (·.size) = some (fcV f S).toArray.size by rw [hsz]; exact szFcL)
  have ZI := Lib.hid (fun S : Value => show (Tryz.prog.info? 35).map (·.size) = some (fcV f S).toArray.size by rw [hsz]; exact szFcI)
  have ZO := Lib.hid (fun S : Value => (hsz S).symm)
  clear sf kf hf hmx hsp hsz hx sx
  by_cases ls : (s.size : Int) > 1048576
  · clear hkL
    go_enter Tryz.func3, Tryz.ntmps3
    go_wp2
    go_ret
    exact ⟨rfl, hB⟩
  · have hs20 : s.size ≤ 1048576 := by omega
    have hlen := fsR_len f (bs s) x m
    go_enter Tryz.func3, Tryz.ntmps3
    go_wp2_with (refine wpList_load_row rfl 26 (.tmp 4) rfl _ rfl 26 (fcV f (.slice Af nf cf)).toArray _ _ hkL Tryz.underlying26 rfl (ZL.out _) ?_)
    obtain ⟨b0, hb0⟩ : ∃ b0, b0 = w.heap.size := ⟨_, rfl⟩
    have hbw : w.heap.size ≤ b0 := by omega
    rw [← hb0] at hkL ⊢
    clear hb0
    generalize w.alloc (.cells (fcV f (.slice Af nf cf)).toArray 26) = W0 at *
    have hb0l := hkL.lt
    go_at_call 4
    refine (szFace_any f Af nf cf 1048576 _ HF.out mf (by omega)).mono ?_
    rintro e w1 ⟨⟨v, rfl, hvl, hv⟩, hb⟩
    have hB := below_step hB hb
    have hkL := hkL.next hb
    have z1 := hb.size
    clear hb
    have HV := Lib.hid hv
    clear hv
    by_cases hv0 : v < 0
    · clear hkL
      go_wp2
      go_ret
      exact ⟨rfl, hB⟩
    · have hsm : nf ≤ 1048576 := by have := HV.out (by omega); omega
      clear HV mf
      go_wp2_with fail
      go_at_call 5
      refine (szShortS_any Ax cx x nx v _ HLx.out mx HDx.out (by omega) (HSx.out.next hB)).mono ?_
      rintro e w2 ⟨⟨vx, rfl, _, hvx⟩, hb⟩
      have hB := below_step hB hb
      have hkL := hkL.next hb
      have z2 := hb.size
      clear hb
      have HVx := Lib.hid hvx
      clear hvx
      by_cases hvx0 : vx < 0
      · clear hkL
        go_wp2
        go_ret
        exact ⟨rfl, hB⟩
      · obtain ⟨hx20, hdx⟩ := HVx.out (by omega)
        have HDx := Lib.hid hdx
        clear hdx HVx mx
        go_wp2_with (refine wpList_load_row rfl 26 (.tmp 4) rfl _ rfl 26 (fcV f (.slice Af nf cf)).toArray _ _ hkL Tryz.underlying26 rfl (ZL.out _) ?_)
        go_at_call 7
        refine (toFace_any f Af nf cf _ HF.out HN.out hsm (HS.out.next hB)).mono ?_
        rintro e w3 ⟨g1, csg1, rfl, hg10, hg1, hb⟩
        have hB := below_step hB hb
        have hkL := hkL.next hb
        have z3 := hb.size
        clear hb
        have lg1 := hg1.lt
        go_wp2_with fail
        go_at_call 8
        refine (toShortS_any Ax cx x nx _ HLx.out (by omega) (HSx.out.next hB)).mono ?_
        rintro e w4 ⟨rx, csrx, rfl, hrx0, hrx, hb⟩
        have hB := below_step hB hb
        have hkL := hkL.next hb
        have hg1 := hg1.next hb
        have z4 := hb.size
        clear hb
        have lrx := hrx.lt
        go_wp2_with fail
        go_at_call 6
        refine (few_specS f _ _ nf nf nx nx s x m _ HF.out HN.out hsm hs20 HLx.out hx20 HDx.out (SlP.of_blk hg1) (SlR.of_blk hrx)).mono ?_
        rintro e w5 ⟨A1, c1, rfl, hb, o1⟩
        have hB := below_step hB hb
        have hkL := hkL.next hb
        have hg1 := hg1.next hb
        have hrx := hrx.next hb
        have z5 := hb.size
        clear hb
        clear hg1 hrx
        go_wp2_with (refine wpList_load_row rfl 26 (.tmp 4) rfl _ rfl 26 (fcV f (.slice Af nf cf)).toArray _ _ hkL Tryz.underlying26 rfl (ZL.out _) ?_)
        go_at_call 7
        refine (toFace_any f Af nf cf _ HF.out HN.out hsm (HS.out.next hB)).mono ?_
        rintro e w6 ⟨gx, csgx, rfl, hgx0, hgx, hb⟩
        have hB := below_step hB hb
        have hkL := hkL.next hb
        have o1 := o1.next hb
        have z6 := hb.size
        clear hb
        have lgx := hgx.lt
        have hX := Blk.new w6 35 (fcV f (.slice (some ⟨gx, 0, none⟩) nf nf))
        have hb := below_one w6 (.cells (fcV f (.slice (some ⟨gx, 0, none⟩) nf nf)).toArray 35)
        have hB2 := below_step hB hb
        have hkLN := hkL.next hb
        have o1N := o1.next hb
        have hgxN := hgx.next hb
        clear hb
        go_wp2_with (refine wpList_store_new rfl 35 _ _ rfl (fcV f (.slice (some ⟨gx, 0, none⟩) nf nf)).toArray rfl rfl 35 _ (ZI.out _) (ZO.out _) (one_fc _ _ _ _) ?_)
        have zx : (w6.alloc (.cells (fcV f (.slice (some ⟨gx, 0, none⟩) nf nf)).toArray 35)).heap.size = w6.heap.size + 1 := by simp
        generalize w6.alloc (.cells (fcV f (.slice (some ⟨gx, 0, none⟩) nf nf)).toArray 35) = WX at *
        have hB := hB2
        have hkL := hkLN
        have o1 := o1N
        have hgx := hgxN
        clear hB2 hkLN o1N hgxN
        go_at_call 8
        refine (toShortS_any Ax cx x nx _ HLx.out (by omega) (HSx.out.next hB)).mono ?_
        rintro e w7 ⟨px, cspx, rfl, hpx0, hpx, hb⟩
        have hB := below_step hB hb
        have hkL := hkL.next hb
        have o1 := o1.next hb
        have hgx := hgx.next hb
        have hX := hX.next hb
        have z7 := hb.size
        clear hb
        have lpx := hpx.lt
        go_wp2_with (refine wpList_load_row rfl 35 (.tmp 12) rfl _ rfl 35 (fcV f (.slice (some ⟨gx, 0, none⟩) nf nf)).toArray _ _ hX Tryz.underlying35 rfl (ZI.out _) ?_)
        go_at_call 9
        refine (few_implS f _ _ nf nf nx nx s x m _ HF.out HN.out hsm hs20 HLx.out hx20 HDx.out (SlP.of_blk hgx) (SlR.of_blk hpx) (HM.out.next hB) (HP.out.next hB)).mono ?_
        rintro e w8 ⟨A2, c2, rfl, hb, o2⟩
        have hB := below_step hB hb
        have hkL := hkL.next hb
        have o1 := o1.next hb
        have hgx := hgx.next hb
        have hX := hX.next hb
        have hpx := hpx.next hb
        have z8 := hb.size
        clear hb
        have nc1 : (fsC f (bs s) x m != fsC f (bs s) x m) = false := by simp
        go_wp2_with fail
        go_at_call 10
        refine (eqInt64S_same _ _ _ _ (fsR f (bs s) x m) _ _ rfl (by unfold maxLen; omega) o2.sl o1.sl).mono ?_
        rintro e w9 ⟨rfl, q9, rfl⟩
        have hB := below_drewN hB q9
        have hkL := hkL.drewN q9
        have o1 := o1.drewN q9
        have hgx := hgx.drewN q9
        have hX := hX.drewN q9
        have hpx := hpx.drewN q9
        have o2 := o2.drewN q9
        have z9 : (World.drewN w8 q9).heap.size = w8.heap.size := rfl
        generalize World.drewN w8 q9 = W9 at *
        go_wp2_with fail
        refine held_begin (W9.heap.size) (by kernel_rfl) ?_
        have hS := below_drewN (Below.refl (W9.heap.size) W9) 1
        refine held_take 0 (.agg (fcV f (.slice (some ⟨gx, 0, none⟩) nf nf)).toArray) rfl (by kernel_rfl) (by kernel_rfl) (by kernel_rfl) (fun _ _ _ h => h) (by kernel_rfl) (fun w' hw' => exec_load_row 35 (.tmp 12) rfl (w6.heap.size) (by kernel_rfl) 35 (fcV f (.slice (some ⟨gx, 0, none⟩) nf nf)).toArray _ _ (hX.next hw') Tryz.underlying35 rfl (ZI.out _)) hS ?_
        refine held_take 1 (.agg (fcV f (.slice Af nf cf)).toArray) rfl (by kernel_rfl) (by kernel_rfl) (by kernel_rfl) (fun _ _ _ h => h) (by kernel_rfl) (fun w' hw' => exec_load_row 26 (.tmp 4) rfl (b0) (by kernel_rfl) 26 (fcV f (.slice Af nf cf)).toArray _ _ (hkL.next hw') Tryz.underlying26 rfl (ZL.out _)) hS ?_
        refine held_call 2 7 #[.agg (fcV f (.slice Af nf cf)).toArray] rfl (by kernel_rfl) (by kernel_rfl) (by kernel_rfl) ?_
        refine (toFace_any f Af nf cf _ HF.out HN.out hsm (HS.out.next (below_step hB hS))).mono ?_
        rintro e w1 ⟨g3, cs3, rfl, _, hg3, hb⟩
        have hS := below_step hS hb
        refine ⟨_, rfl, hS, ?_⟩
        refine held_call 3 11 #[.agg (fcV f (.slice (some ⟨gx, 0, none⟩) nf nf)).toArray, .agg (fcV f (.slice (some ⟨g3, 0, none⟩) nf nf)).toArray] rfl (by kernel_rfl) (by kernel_rfl) (by kernel_rfl) ?_
        refine (eqFace_same f _ _ nf nf nf _ HF.out HN.out hsm (SlP.of_blk (hgx.next hS)) (SlP.of_blk hg3)).mono ?_
        rintro e w1 ⟨rfl, hb⟩
        have hS := below_step hS hb
        refine ⟨_, rfl, hS, ?_⟩
        refine held_take 4 (.bool false) rfl (by kernel_rfl) (by kernel_rfl) (by kernel_rfl) (fun _ _ _ h => h) (by kernel_rfl) (fun w' hw' => by kernel_rfl) hS ?_
        refine held_done (by kernel_rfl) ?_
        simp only [Act.put, List.setIfInBounds_toArray, List.set_cons_succ, List.set_cons_zero]
        have hB := below_step hB hS
        have hkL := hkL.next hS
        have o1 := o1.next hS
        have hgx := hgx.next hS
        have hX := hX.next hS
        have hpx := hpx.next hS
        have o2 := o2.next hS
        have z10 := hS.size
        clear hb hg3 hS
        go_wp2_with fail
        go_at_call 8
        refine (toShortS_any Ax cx x nx _ HLx.out (by omega) (HSx.out.next hB)).mono ?_
        rintro e w11 ⟨ex, csex, rfl, _, hex, hb⟩
        have hB := below_step hB hb
        have hkL := hkL.next hb
        have o1 := o1.next hb
        have hgx := hgx.next hb
        have hX := hX.next hb
        have hpx := hpx.next hb
        have o2 := o2.next hb
        have z11 := hb.size
        clear hb
        go_wp2_with fail
        go_at_call 12
        refine (eqShortS_same _ _ _ _ x nx _ HLx.out (by omega) (SlR.of_blk hpx) (SlR.of_blk hex)).mono ?_
        rintro e w12 ⟨rfl, hb⟩
        have hB := below_step hB hb
        have hkL := hkL.next hb
        have o1 := o1.next hb
        have hgx := hgx.next hb
        have hX := hX.next hb
        have hpx := hpx.next hb
        have o2 := o2.next hb
        have hex := hex.next hb
        have z12 := hb.size
        clear hb
        clear hex
        go_wp2_with (refine wpList_load_row rfl 35 (.tmp 12) rfl _ rfl 35 (fcV f (.slice (some ⟨gx, 0, none⟩) nf nf)).toArray _ _ hX Tryz.underlying35 rfl (ZI.out _) ?_)
        go_at_call 13
        refine (markFace_own gx (gx + 1) gx nf nf f csgx _ HF.out HN.out hsm (Nat.le_refl _) (Nat.lt_succ_self _) ?_ hgx).mono ?_
        · have := hX.lt; omega
        rintro e w13 ⟨⟨k13, rfl, hk13, hkU13⟩, hw13⟩
        have hzB := hB.size
        clear hX hgx
        have hkL := hkL.within hw13 (by omega)
        have o1 := o1.within hw13 (by omega)
        have hpx := hpx.within hw13 (by omega)
        have o2 := o2.within hw13 (by omega)
        have hB : Below w.heap.size w w13 := hw13.below hB (by omega) hzB
        have z13 := hw13.size
        clear hw13 hzB
        go_wp2_with fail
        go_at_call 14
        refine (markShortS_own px (px + 1) px nx nx k13 _ _ (by omega) (by rw [List.length_append, srVs_length, HLx.out]; omega) (by omega) (Nat.le_refl _) (Nat.lt_succ_self _) (by omega) hpx).mono ?_
        rintro e w14 ⟨⟨k14, rfl, hk14, hkU14⟩, hw14⟩
        have hzB := hB.size
        clear hpx
        have hkL := hkL.within hw14 (by omega)
        have o1 := o1.within hw14 (by omega)
        have o2 := o2.within hw14 (by omega)
        have hB : Below w.heap.size w w14 := hw14.below hB (by omega) hzB
        have z14 := hw14.size
        clear hw14 hzB
        go_wp2_with fail
        go_at_call 10
        refine (eqInt64S_same _ _ _ _ (fsR f (bs s) x m) _ _ rfl (by unfold maxLen; omega) o2.sl o1.sl).mono ?_
        rintro e w15 ⟨rfl, q15, rfl⟩
        have hB := below_drewN hB q15
        have hkL := hkL.drewN q15
        have o1 := o1.drewN q15
        have o2 := o2.drewN q15
        have z15 : (World.drewN w14 q15).heap.size = w14.heap.size := rfl
        generalize World.drewN w14 q15 = W15 at *
        go_wp2_with fail
        go_at_call 15
        refine (markInt64S_ownS _ _ _ _ _ _ 1 _ rfl (by omega) (by omega) o2).mono ?_
        rintro e w16 ⟨rfl, o2, hw16⟩
        have hzB := hB.size
        have hkL := hkL.within hw16 (by omega)
        have o1 := o1.within hw16 (by omega)
        have hB : Below w.heap.size w w16 := hw16.below hB (by omega) hzB
        have z16 := hw16.size
        clear hw16 hzB
        go_wp2_with fail
        go_at_call 16
        refine (heldInt64S_same _ _ _ 1 _ (by omega) (by omega) o2.sl).mono ?_
        rintro e w16h ⟨rfl, rfl⟩
        go_wp2_with (refine wpList_load_row rfl 26 (.tmp 4) rfl _ rfl 26 (fcV f (.slice Af nf cf)).toArray _ _ hkL Tryz.underlying26 rfl (ZL.out _) ?_)
        go_at_call 7
        refine (toFace_any f Af nf cf _ HF.out HN.out hsm (HS.out.next hB)).mono ?_
        rintro e w17 ⟨g4, csg4, rfl, hg40, hg4, hb⟩
        have hB := below_step hB hb
        have hkL := hkL.next hb
        have o1 := o1.next hb
        have o2 := o2.next hb
        have z17 := hb.size
        clear hb
        have lg4 := hg4.lt
        go_wp2_with fail
        go_at_call 8
        refine (toShortS_any Ax cx x nx _ HLx.out (by omega) (HSx.out.next hB)).mono ?_
        rintro e w18 ⟨tx, cstx, rfl, htx0, htx, hb⟩
        have hB := below_step hB hb
        have hkL := hkL.next hb
        have o1 := o1.next hb
        have o2 := o2.next hb
        have hg4 := hg4.next hb
        have z18 := hb.size
        clear hb
        have ltx := htx.lt
        go_wp2_with fail
        clear hkL
        go_at_call 9
        refine (few_implS f _ _ nf nf nx nx s x m _ HF.out HN.out hsm hs20 HLx.out hx20 HDx.out (SlP.of_blk hg4) (SlR.of_blk htx) (HM.out.next hB) (HP.out.next hB)).mono ?_
        rintro e w19 ⟨A3, c3, rfl, hb, o3⟩
        have hB := below_step hB hb
        have o1 := o1.next hb
        have o2 := o2.next hb
        have hg4 := hg4.next hb
        have htx := htx.next hb
        have z19 := hb.size
        clear hb
        clear hg4 htx
        go_wp2_with fail
        go_at_call 10
        refine (eqInt64S_same _ _ _ _ (fsR f (bs s) x m) _ _ rfl (by unfold maxLen; omega) o3.sl o1.sl).mono ?_
        rintro e w20 ⟨rfl, q20, rfl⟩
        have hB := below_drewN hB q20
        have o1 := o1.drewN q20
        have o2 := o2.drewN q20
        have o3 := o3.drewN q20
        have z20 : (World.drewN w19 q20).heap.size = w19.heap.size := rfl
        generalize World.drewN w19 q20 = W20 at *
        go_wp2_with fail
        go_at_call 16
        refine (heldInt64S_same _ _ _ 1 _ (by omega) (by omega) o2.sl).mono ?_
        rintro e w20h ⟨rfl, rfl⟩
        go_wp2_with fail
        go_ret
        exact ⟨rfl, hB⟩

theorem own : ownKnob Tryz.prog.godebug = none := by kernel_rfl
theorem laidOut : laidOutB Tryz.prog = true := by kernel_rfl
set_option maxRecDepth 100000 in
theorem reads (os : Os) {H : Type} (enc : TypeId × Value → H) : (DataW.whole enc Tryz.prog ((World.laidAll Tryz.prog os Rows.fnExactFewestShortsRow.laid).forCall (fun _ _ => 0) ⟨#[], #[.agg #[.int .i8 0, .int .i8 0, .int .i8 0, .int .i8 0, .int .i8 0, .int .i8 0, .int .i8 0, .int .i8 0, .int .i8 0, .int .i8 0, .int .i8 0, .int .i8 0, .int .i8 0, .int .i8 0, .int .i8 0, .int .i8 0, .int .i8 0, .int .i8 0, .int .i8 0, .int .i8 0, .int .i8 0, .int .i8 0, .int .i8 0, .int .i8 0, .int .i8 0, .int .i8 0, .int .i8 0, .int .i8 0, .slice none 0 0], .string ⟨#[]⟩, .slice none 0 0, .int .i64 0], []⟩).memory Tryz.f3.params.toList Rows.fnExactFewestShortsSpec.vars false (#[.agg #[.int .i8 0, .int .i8 0, .int .i8 0, .int .i8 0, .int .i8 0, .int .i8 0, .int .i8 0, .int .i8 0, .int .i8 0, .int .i8 0, .int .i8 0, .int .i8 0, .int .i8 0, .int .i8 0, .int .i8 0, .int .i8 0, .int .i8 0, .int .i8 0, .int .i8 0, .int .i8 0, .int .i8 0, .int .i8 0, .int .i8 0, .int .i8 0, .int .i8 0, .int .i8 0, .int .i8 0, .int .i8 0, .slice none 0 0], .string ⟨#[]⟩, .slice none 0 0, .int .i64 0] : Array Value).toList 8).map (fun x => (x.1, x.2.1)) = some ([.agg [.agg [.lit (.int .i8 0), .lit (.int .i8 0), .lit (.int .i8 0), .lit (.int .i8 0), .lit (.int .i8 0), .lit (.int .i8 0), .lit (.int .i8 0), .lit (.int .i8 0), .lit (.int .i8 0), .lit (.int .i8 0), .lit (.int .i8 0), .lit (.int .i8 0), .lit (.int .i8 0), .lit (.int .i8 0), .lit (.int .i8 0), .lit (.int .i8 0), .lit (.int .i8 0), .lit (.int .i8 0), .lit (.int .i8 0), .lit (.int .i8 0), .lit (.int .i8 0), .lit (.int .i8 0), .lit (.int .i8 0), .lit (.int .i8 0), .lit (.int .i8 0), .lit (.int .i8 0)], .lit (.int .i8 0), .lit (.int .i8 0), .nil], .lit (.string []), .nil, .lit (.int .i64 0)], []) := by kernel_rfl
set_option maxRecDepth 100000 in
theorem witness (os : Os) {H : Type} (enc : TypeId × Value → H) : ∃ (w : World) (tape : Tape) (i : Input), w.os = os ∧ (w.forCall tape i).Shaped Tryz.prog ∧ i.vars = [] ∧ Input.okWide Tryz.prog (w.forCall tape i) .any w.heap.size 3 i ∧
    (OpenSpec.ofChange Rows.fnExactFewestShortsSpec).preRow enc Tryz.prog Tryz.f3 Rows.fnExactFewestShortsRow.domain false Rows.fnExactFewestShortsRow.laid (w.forCall tape i).memory i.args ∧ ({} : Assume).holds Tryz.prog (lone (Frame.enter Tryz.prog 3 i.args .normal) [] (w.forCall tape i)) := by
  obtain ⟨⟨x1, x2, x3⟩, hx, hx1⟩ := Option.map_eq_some_iff.1 (reads os enc)
  simp only [Prod.mk.injEq] at hx1
  obtain ⟨rfl, rfl⟩ := hx1
  have hok : Input.okWideB Tryz.prog ((World.laidAll Tryz.prog os Rows.fnExactFewestShortsRow.laid).forCall (fun _ _ => 0) ⟨#[], #[.agg #[.int .i8 0, .int .i8 0, .int .i8 0, .int .i8 0, .int .i8 0, .int .i8 0, .int .i8 0, .int .i8 0, .int .i8 0, .int .i8 0, .int .i8 0, .int .i8 0, .int .i8 0, .int .i8 0, .int .i8 0, .int .i8 0, .int .i8 0, .int .i8 0, .int .i8 0, .int .i8 0, .int .i8 0, .int .i8 0, .int .i8 0, .int .i8 0, .int .i8 0, .int .i8 0, .int .i8 0, .int .i8 0, .slice none 0 0], .string ⟨#[]⟩, .slice none 0 0, .int .i64 0], []⟩) 3 ⟨#[], #[.agg #[.int .i8 0, .int .i8 0, .int .i8 0, .int .i8 0, .int .i8 0, .int .i8 0, .int .i8 0, .int .i8 0, .int .i8 0, .int .i8 0, .int .i8 0, .int .i8 0, .int .i8 0, .int .i8 0, .int .i8 0, .int .i8 0, .int .i8 0, .int .i8 0, .int .i8 0, .int .i8 0, .int .i8 0, .int .i8 0, .int .i8 0, .int .i8 0, .int .i8 0, .int .i8 0, .int .i8 0, .int .i8 0, .slice none 0 0], .string ⟨#[]⟩, .slice none 0 0, .int .i64 0], []⟩ = true := by kernel_rfl
  exact ⟨(World.laidAll Tryz.prog os Rows.fnExactFewestShortsRow.laid), fun _ _ => 0, ⟨#[], #[.agg #[.int .i8 0, .int .i8 0, .int .i8 0, .int .i8 0, .int .i8 0, .int .i8 0, .int .i8 0, .int .i8 0, .int .i8 0, .int .i8 0, .int .i8 0, .int .i8 0, .int .i8 0, .int .i8 0, .int .i8 0, .int .i8 0, .int .i8 0, .int .i8 0, .int .i8 0, .int .i8 0, .int .i8 0, .int .i8 0, .int .i8 0, .int .i8 0, .int .i8 0, .int .i8 0, .int .i8 0, .int .i8 0, .slice none 0 0], .string ⟨#[]⟩, .slice none 0 0, .int .i64 0], []⟩, World.laidAll_os _ _ _, World.shaped_of_ZipB (by kernel_rfl) (by kernel_rfl), (Input.okWide_of_okWideB (base := 0) hok).1, (Input.okWide_of_okWideB hok).2,
    OpenSpec.preRow_of_cond 8 hx (by kernel_rfl) (fun k hk => by cases hk) (by kernel_rfl) (by rw [MakeChecks.laidMetH_plain _ _ _ (by kernel_rfl)]; exact laidMet_laidAll _ (by kernel_rfl) (by kernel_rfl)), by
      simp only [Assume.holds]
      exact ⟨by simp, by simp, by simp, by simp, by simp⟩⟩
set_option maxRecDepth 100000 in
theorem lifted (os : Os) (started : os.Started) (H : Type) (enc : TypeId × Value → H) (F : Stop.Interp) :
    ReturnsInHanded {} Tryz.checked os 3 .any ((OpenSpec.ofChange Rows.fnExactFewestShortsSpec).preRow enc Tryz.prog Tryz.f3 Rows.fnExactFewestShortsRow.domain false Rows.fnExactFewestShortsRow.laid) (((OpenSpec.ofChange Rows.fnExactFewestShortsSpec).at F).post enc Tryz.prog Tryz.f3 false true false false) := by
  refine returnsInHanded_of_row (C := Tryz.checked) (s := OpenSpec.ofChange Rows.fnExactFewestShortsSpec) own started (by kernel_rfl) Tryz.func3 (witness os enc) ?_
  intro W base args ds gs before hval0 hW _ _ _ hL hsh _
  have hval : ∀ (j : Nat) t v, Tryz.f3.params[j]? = some t → args[j]? = some v → Value.okWide Tryz.prog W .any base t v := hval0
  have hW' := hW
  obtain ⟨p, q, hA0, hV, rfl, hfz, hnd⟩ := hW
  have hA : DataW.TrodAll enc Tryz.prog W 0 (fun _ => true) true Tryz.f3.params.toList args.toList ds p := hA0
  rw [Tryz.params3] at hA hval
  obtain ⟨v0, vs0, d0, ds0, p0, q0, hargs, rfl, rfl, h0, r0⟩ := trodAll_cons hA
  obtain ⟨v1, vs1, d1, ds1, p1, q1, rfl, rfl, rfl, h1, r1⟩ := trodAll_cons r0
  obtain ⟨v2, vs2, d2, ds2, p2, q2, rfl, rfl, rfl, h2, r2⟩ := trodAll_cons r1
  obtain ⟨v3, vs3, d3, ds3, p3, q3, rfl, rfl, rfl, h3, r3⟩ := trodAll_cons r2
  obtain ⟨rfl, rfl, rfl⟩ := trodAll_nil r3
  obtain rfl : args = #[v0, v1, v2, v3] := by cases args; simp_all
  obtain ⟨rfl, rfl⟩ := trodVars_none hV
  have k0 := h0
  have lt0 : ∀ x ∈ p0, x.block < W.heap.size := by obtain ⟨m, hm⟩ := k0; exact DataW.trod_lt m _ _ _ hm
  have k1 := h1
  have lt1 : ∀ x ∈ p1, x.block < W.heap.size := by obtain ⟨m, hm⟩ := k1; exact DataW.trod_lt m _ _ _ hm
  have k2 := h2
  have lt2 : ∀ x ∈ p2, x.block < W.heap.size := by obtain ⟨m, hm⟩ := k2; exact DataW.trod_lt m _ _ _ hm
  have k3 := h3
  have lt3 : ∀ x ∈ p3, x.block < W.heap.size := by obtain ⟨m, hm⟩ := k3; exact DataW.trod_lt m _ _ _ hm
  obtain ⟨f, Af, cf, nf, rfl, hf, kf, mf, sf⟩ := open_face (hval 0 26 v0 rfl rfl) h0
  obtain ⟨s, rfl, rfl, rfl, hs⟩ := open_string Tryz.underlying9 (hval 1 9 v1 rfl rfl) h1
  unfold maxLen at hs
  obtain ⟨Ax, cx, x, nx, rfl, hx, mx, sx, dx⟩ := open_shorts (hval 2 27 v2 rfl rfl) h2
  obtain ⟨m, rfl, rfl, rfl, wm⟩ := open_int Tryz.underlying2 (hval 3 2 v3 rfl rfl) h3
  have bm := bounds_i64 wm
  have emx := maxW_of hsh
  have esp := spT_of (l := Rows.fnExactFewestShortsRow.laid) (by kernel_rfl) hL
  clear hA0 hval0
  refine (walk f Af cf nf s Ax cx x nx m W hf kf mf sf hs hx mx sx dx bm emx esp).mono fun e W' ⟨he, bel⟩ => ?_
  subst he
  exact ⟨_, rfl, _, _, _, [], _, [], hW', trodAll_mk1 (shut_bool Tryz.underlying4 _), (trodAll_cons_mk (Below.trod laidOut (by kernel_rfl) (of_decide_eq_true (by kernel_rfl)) k0 bel lt0) (trodAll_cons_mk (Below.trod laidOut (by kernel_rfl) (of_decide_eq_true (by kernel_rfl)) k1 bel lt1) (trodAll_cons_mk (Below.trod laidOut (by kernel_rfl) (of_decide_eq_true (by kernel_rfl)) k2 bel lt2) (trodAll_cons_mk (Below.trod laidOut (by kernel_rfl) (of_decide_eq_true (by kernel_rfl)) k3 bel lt3) trodAll_mk0)))), by first | rfl | simp, bel.frame _, fun h => by cases h⟩

theorem said : Rows.FnExactFewestShortsSaid :=
  OpenClaim.holds_of_cond 3 Tryz.f3 rfl rfl rfl rfl rfl rfl rfl ⟨rfl, rfl, rfl, rfl, rfl⟩ rfl rfl rfl rfl rfl (by kernel_rfl) Tryz.func3 (by kernel_rfl)
    (of_decide_eq_true (by kernel_rfl)) (by unfold Func.isWrapper; first | (rw [if_pos (by decide +kernel)]; kernel_rfl) | (rw [if_neg (by decide +kernel)]; exact ⟨rfl, rfl⟩))
    (fun os started H enc _ F => by rw [OpenClaim.pre_eq_preRow]; exact lifted os started H enc F)
theorem plain (f : FuncId) (fn : Func) (hf : Tryz.pinned.checked.prog.funcNamed "loop.example/g01398/laws.FnExactFewestShorts" = some f) (hfn : Tryz.pinned.checked.prog.funcs[f]? = some fn) :
    false = Tryz.pinned.checked.prog.looks [] ∧ ∀ (j : Nat) t, fn.params[j]? = some t → Tryz.pinned.checked.prog.wantsStandIn t = false := by
  obtain rfl : f = 3 := Option.some.inj ((show Tryz.prog.funcNamed "loop.example/g01398/laws.FnExactFewestShorts" = some 3 by kernel_rfl).symm.trans hf) |>.symm
  obtain rfl : fn = Tryz.f3 := (Option.some.inj (Tryz.func3.symm.trans hfn)).symm
  refine ⟨by kernel_rfl, fun j t ht => ?_⟩
  rw [Tryz.params3] at ht
  have hm : t ∈ [26, 9, 27, 2] := by simpa using Array.mem_of_getElem? ht
  have hall : ([26, 9, 27, 2].all fun u => !Tryz.prog.wantsStandIn u) = true := by kernel_rfl
  exact (show Tryz.prog.wantsStandIn t = false by simpa using List.all_eq_true.1 hall t hm)
theorem proved : Rows.FnExactFewestShortsCardSaid :=
  Claim7.holds_tied_plain_at .later [] _ _ _ _ said (fun _ h => by cases h) (by kernel_rfl) (fun _ h => by cases h) fnExactFewestShorts_row_tie rfl ⟨rfl, rfl⟩ (by kernel_rfl) rfl plain (by kernel_rfl)
#print axioms proved
end Go.Proofs.YtnlnjpdnhdmndaaGreatDoor.lawExactFewestShorts
