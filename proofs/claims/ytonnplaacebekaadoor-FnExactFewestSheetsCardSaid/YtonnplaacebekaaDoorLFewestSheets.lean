/- The program's FewestSheets returns what the reference's returns, for every face, sheet and text, hands back memory of its own, and the face stays as it was. What the library's tables hold is tied to the program's text. -/
import Derived.Test.YtonnplaacebekaaDoorRows
import Derived.Test.YtonnplaacebekaaDoorGE
import Derived.Test.YtonnplaacebekaaDoorShB3
import Derived.Test.YtonnplaacebekaaDoorOpenSh
import Derived.Test.YtonnplaacebekaaDoorGB
import Derived.Test.YtonnplaacebekaaDoorGC
import Derived.Test.YtonnplaacebekaaDoorGA
import Derived.Test.YtonnplaacebekaaDoorCards
import Derived.Test.YtonnplaacebekaaDoorTie
import Derived.Lay
import Derived.LaidMore
import Derived.SevenTiedAt
import Derived.Stop.Joined
import Derived.Deep.DeepHandedRow





namespace Go.Proofs.YtonnplaacebekaaDoor.lawExactFewestSheets
open Go Go.RowKit Go.ChangeShapes Go.WideShapes Go.ChangeAt Go.Proofs.YtonnplaacebekaaDoor
open Go.ChangeMaps (open_string shut_string)
set_option linter.unusedVariables false
set_option linter.unusedSimpArgs false

attribute [local irreducible] wpAnyH in
set_option maxHeartbeats 4000000 in
set_option maxRecDepth 100000 in
theorem walk (f : Fc) (Af : Option Addr) (cf nf : Nat) (sh : Sh) (s : ByteArray) (w : World) (hf : FcT f) (kf : f.pairs.length = nf) (mf : nf ≤ maxLen) (sf : SlP w Af f.pairs) (hsh : ShT sh) (hs : s.size ≤ 9223372036854775807) (hmx : MaxW w) :
    Calls Tryd.prog 7 #[.agg (fcV f (.slice Af nf cf)).toArray, .agg (shV sh).toArray, .string s] w fun e w' => e = .returned (.bool true) ∧ Below w.heap.size w w' := by
  have hB := below_two w (.cells (fcV f (.slice Af nf cf)).toArray 26) (.cells (shV sh).toArray 29)
  have hkL := (Blk.new w 26 (fcV f (.slice Af nf cf))).next (below_one _ (.cells (shV sh).toArray 29))
  have hkS := Blk.new (w.alloc (.cells (fcV f (.slice Af nf cf)).toArray 26)) 29 (shV sh)
  rw [World.size_alloc] at hkS
  have HSH := Lib.hid hsh
  clear hsh
  have HS := Lib.hid sf
  have HN := Lib.hid kf
  have HF := Lib.hid hf
  have HM := Lib.hid hmx
  have hsz : ∀ S : Value, (fcV f S).toArray.size = 29 := fun S => by simp [fcV_length hf]
  have ZL := Lib.hid (fun S : Value => show (Tryd.prog.info? 26).map (·.size) = some (fcV f S).toArray.size by rw [hsz]; exact szFcL)
  have ZI := Lib.hid (fun S : Value => show (Tryd.prog.info? 36).map (·.size) = some (fcV f S).toArray.size by rw [hsz]; exact szFcI)
  have ZO := Lib.hid (fun S : Value => (hsz S).symm)
  clear sf kf hf hmx hsz 
  by_cases ls : (s.size : Int) > 1048576
  · clear hkL hkS
    go_enter Tryd.func7, Tryd.ntmps7
    go_wp2
    go_ret
    exact ⟨rfl, hB⟩
  · have hs20 : s.size ≤ 1048576 := by omega
    have hlen := fewR_len f sh (bs s)
    go_enter Tryd.func7, Tryd.ntmps7
    go_wp2_with (refine wpList_load_row rfl 26 (.tmp 3) rfl _ rfl 26 (fcV f (.slice Af nf cf)).toArray _ _ hkL Tryd.underlying26 rfl (ZL.out _) ?_)
    obtain ⟨b0, hb0⟩ : ∃ b0, b0 = w.heap.size := ⟨_, rfl⟩
    have hbw : w.heap.size ≤ b0 := by omega
    rw [← hb0] at hkL hkS ⊢
    clear hb0
    generalize (w.alloc (.cells (fcV f (.slice Af nf cf)).toArray 26)).alloc (.cells (shV sh).toArray 29) = W0 at *
    have hb0l := hkL.lt
    have hb0s := hkS.lt
    go_at_call 10
    refine (szFace_any f Af nf cf 1048576 _ HF.out mf (by omega)).mono ?_
    rintro e w1 ⟨⟨v, rfl, _, hv⟩, hb⟩
    have hB := below_step hB hb
    have hkL := hkL.next hb
    have hkS := hkS.next hb
    have z1 := hb.size
    clear hb
    have HV := Lib.hid hv
    clear hv
    by_cases hv0 : v < 0
    · clear hkL hkS
      go_wp2
      go_ret
      exact ⟨rfl, hB⟩
    · have hsm : nf ≤ 1048576 := by have := HV.out (by omega); omega
      clear HV mf
      go_wp2_with fail
      refine held_begin (w1.heap.size) (by kernel_rfl) ?_
      have hS := below_drewN (Below.refl (w1.heap.size) w1) 1
      refine held_take 0 (.agg (fcV f (.slice Af nf cf)).toArray) rfl (by kernel_rfl) (by kernel_rfl) (by kernel_rfl) (fun _ _ _ h => h) (by kernel_rfl) (fun w' hw' => exec_load_row 26 (.tmp 3) rfl (b0) (by kernel_rfl) 26 (fcV f (.slice Af nf cf)).toArray _ _ (hkL.next hw') Tryd.underlying26 rfl (ZL.out _)) hS ?_
      refine held_take 2 (.agg (shV sh).toArray) rfl (by kernel_rfl) (by kernel_rfl) (by kernel_rfl) (fun _ _ _ h => h) (by kernel_rfl) (fun w' hw' => exec_load_row 29 (.tmp 4) rfl (b0 + 1) (by kernel_rfl) 29 (shV sh).toArray _ _ (hkS.next hw') Tryd.underlying29 rfl (szShL)) hS ?_
      refine held_take 4 (.string s) rfl (by kernel_rfl) (by kernel_rfl) (by kernel_rfl) (fun _ _ _ h => h) (by kernel_rfl) (fun w' hw' => by kernel_rfl) hS ?_
      refine held_call 1 12 #[.agg (fcV f (.slice Af nf cf)).toArray] rfl (by kernel_rfl) (by kernel_rfl) (by kernel_rfl) ?_
      refine (toFace_any f Af nf cf _ HF.out HN.out hsm (HS.out.next (below_step hB hS))).mono ?_
      rintro e w1 ⟨g1, csg1, rfl, hg10, hg1, hb⟩
      have hS := below_step hS hb
      refine ⟨_, rfl, hS, ?_⟩
      have y11 := hS.size
      clear hb
      refine held_call 3 13 #[.agg (shV sh).toArray] rfl (by kernel_rfl) (by kernel_rfl) (by kernel_rfl) ?_
      refine (toSheet_any sh _).mono ?_
      rintro e w1 ⟨rfl, hb⟩
      have hS := below_step hS hb
      refine ⟨_, rfl, hS, ?_⟩
      have hg1 := hg1.next hb
      have y13 := hS.size
      clear hb
      refine held_call 5 27 #[.agg (fcV f (.slice (some ⟨g1, 0, none⟩) nf nf)).toArray, .agg (shV sh).toArray, .string s] rfl (by kernel_rfl) (by kernel_rfl) (by kernel_rfl) ?_
      refine (few_spec f _ nf nf sh s _ HF.out HN.out hsm hs20 HSH.out (SlP.of_blk hg1)).mono ?_
      rintro e w1 ⟨A1, c1, rfl, hb, o1⟩
      have hS := below_step hS hb
      refine ⟨_, rfl, hS, ?_⟩
      refine held_take 6 (.tuple #[.slice A1 ((fewR f sh (bs s)).1).length c1, .int .i64 ((fewR f sh (bs s)).2.1), .int .i64 ((fewR f sh (bs s)).2.2)]) rfl (by kernel_rfl) (by kernel_rfl) (by kernel_rfl) (fun _ _ _ h => h) (by kernel_rfl) (fun w' hw' => by kernel_rfl) hS ?_
      refine held_take 7 (.slice A1 ((fewR f sh (bs s)).1).length c1) rfl (by kernel_rfl) (by kernel_rfl) (by kernel_rfl) (fun _ _ _ h => h) (by kernel_rfl) (fun w' hw' => by kernel_rfl) hS ?_
      refine held_take 8 (.int .i64 ((fewR f sh (bs s)).2.1)) rfl (by kernel_rfl) (by kernel_rfl) (by kernel_rfl) (fun _ _ _ h => h) (by kernel_rfl) (fun w' hw' => by kernel_rfl) hS ?_
      refine held_take 9 (.int .i64 ((fewR f sh (bs s)).2.2)) rfl (by kernel_rfl) (by kernel_rfl) (by kernel_rfl) (fun _ _ _ h => h) (by kernel_rfl) (fun w' hw' => by kernel_rfl) hS ?_
      refine held_take 10 (.slice A1 ((fewR f sh (bs s)).1).length c1) rfl (by kernel_rfl) (by kernel_rfl) (by kernel_rfl) (fun _ _ _ h => h) (by kernel_rfl) (fun w' hw' => by kernel_rfl) hS ?_
      refine held_take 11 (.int .i64 ((fewR f sh (bs s)).2.1)) rfl (by kernel_rfl) (by kernel_rfl) (by kernel_rfl) (fun _ _ _ h => h) (by kernel_rfl) (fun w' hw' => by kernel_rfl) hS ?_
      refine held_take 12 (.int .i64 ((fewR f sh (bs s)).2.2)) rfl (by kernel_rfl) (by kernel_rfl) (by kernel_rfl) (fun _ _ _ h => h) (by kernel_rfl) (fun w' hw' => by kernel_rfl) hS ?_
      refine held_done (by kernel_rfl) ?_
      simp only [Act.put, List.setIfInBounds_toArray, List.set_cons_succ, List.set_cons_zero]
      have hB := below_step hB hS
      have hkL := hkL.next hS
      have hkS := hkS.next hS
      have z2 := hS.size
      clear hb hS hg1
      go_simp
      apply_assumption
      go_wp2_with (refine wpList_load_row rfl 26 (.tmp 3) rfl _ rfl 26 (fcV f (.slice Af nf cf)).toArray _ _ hkL Tryd.underlying26 rfl (ZL.out _) ?_)
      go_at_call 12
      refine (toFace_any f Af nf cf _ HF.out HN.out hsm (HS.out.next hB)).mono ?_
      rintro e w3 ⟨gx, csgx, rfl, hgx0, hgx, hb⟩
      have hB := below_step hB hb
      have hkL := hkL.next hb
      have hkS := hkS.next hb
      have o1 := o1.next hb
      have z3 := hb.size
      clear hb
      have lgx := hgx.lt
      have hX := Blk.new w3 36 (fcV f (.slice (some ⟨gx, 0, none⟩) nf nf))
      have hb := below_one w3 (.cells (fcV f (.slice (some ⟨gx, 0, none⟩) nf nf)).toArray 36)
      have hB2 := below_step hB hb
      have hkLN := hkL.next hb
      have hkSN := hkS.next hb
      have o1N := o1.next hb
      have hgxN := hgx.next hb
      clear hb
      go_wp2_with (refine wpList_store_new rfl 36 _ _ rfl (fcV f (.slice (some ⟨gx, 0, none⟩) nf nf)).toArray rfl rfl 36 _ (ZI.out _) (ZO.out _) (one_fc _ _ _ _) ?_)
      have zx : (w3.alloc (.cells (fcV f (.slice (some ⟨gx, 0, none⟩) nf nf)).toArray 36)).heap.size = w3.heap.size + 1 := by simp
      generalize w3.alloc (.cells (fcV f (.slice (some ⟨gx, 0, none⟩) nf nf)).toArray 36) = WX at *
      have hB := hB2
      have hkL := hkLN
      have hkS := hkSN
      have o1 := o1N
      have hgx := hgxN
      clear hB2 hkLN hkSN o1N hgxN
      go_wp2_with fail
      refine held_begin (WX.heap.size) (by kernel_rfl) ?_
      have hS := below_drewN (Below.refl (WX.heap.size) WX) 1
      refine held_take 0 (.agg (fcV f (.slice (some ⟨gx, 0, none⟩) nf nf)).toArray) rfl (by kernel_rfl) (by kernel_rfl) (by kernel_rfl) (fun _ _ _ h => h) (by kernel_rfl) (fun w' hw' => exec_load_row 36 (.tmp 11) rfl (w3.heap.size) (by kernel_rfl) 36 (fcV f (.slice (some ⟨gx, 0, none⟩) nf nf)).toArray _ _ (hX.next hw') Tryd.underlying36 rfl (ZI.out _)) hS ?_
      refine held_take 1 (.agg (shV sh).toArray) rfl (by kernel_rfl) (by kernel_rfl) (by kernel_rfl) (fun _ _ _ h => h) (by kernel_rfl) (fun w' hw' => exec_load_row 29 (.tmp 4) rfl (b0 + 1) (by kernel_rfl) 29 (shV sh).toArray _ _ (hkS.next hw') Tryd.underlying29 rfl (szShL)) hS ?_
      refine held_take 3 (.string s) rfl (by kernel_rfl) (by kernel_rfl) (by kernel_rfl) (fun _ _ _ h => h) (by kernel_rfl) (fun w' hw' => by kernel_rfl) hS ?_
      refine held_call 2 13 #[.agg (shV sh).toArray] rfl (by kernel_rfl) (by kernel_rfl) (by kernel_rfl) ?_
      refine (toSheet_any sh _).mono ?_
      rintro e w1 ⟨rfl, hb⟩
      have hS := below_step hS hb
      refine ⟨_, rfl, hS, ?_⟩
      have y22 := hS.size
      clear hb
      refine held_call 4 28 #[.agg (fcV f (.slice (some ⟨gx, 0, none⟩) nf nf)).toArray, .agg (shV sh).toArray, .string s] rfl (by kernel_rfl) (by kernel_rfl) (by kernel_rfl) ?_
      refine (few_impl f _ nf nf sh s _ HF.out HN.out hsm hs20 HSH.out (SlP.of_blk (hgx.next hS)) (HM.out.next (below_step hB hS))).mono ?_
      rintro e w1 ⟨A2, c2, rfl, hb, o2⟩
      have hS := below_step hS hb
      refine ⟨_, rfl, hS, ?_⟩
      refine held_take 5 (.tuple #[.slice A2 ((fewR f sh (bs s)).1).length c2, .int .i64 ((fewR f sh (bs s)).2.1), .int .i64 ((fewR f sh (bs s)).2.2)]) rfl (by kernel_rfl) (by kernel_rfl) (by kernel_rfl) (fun _ _ _ h => h) (by kernel_rfl) (fun w' hw' => by kernel_rfl) hS ?_
      refine held_take 6 (.slice A2 ((fewR f sh (bs s)).1).length c2) rfl (by kernel_rfl) (by kernel_rfl) (by kernel_rfl) (fun _ _ _ h => h) (by kernel_rfl) (fun w' hw' => by kernel_rfl) hS ?_
      refine held_take 7 (.int .i64 ((fewR f sh (bs s)).2.1)) rfl (by kernel_rfl) (by kernel_rfl) (by kernel_rfl) (fun _ _ _ h => h) (by kernel_rfl) (fun w' hw' => by kernel_rfl) hS ?_
      refine held_take 8 (.int .i64 ((fewR f sh (bs s)).2.2)) rfl (by kernel_rfl) (by kernel_rfl) (by kernel_rfl) (fun _ _ _ h => h) (by kernel_rfl) (fun w' hw' => by kernel_rfl) hS ?_
      refine held_take 9 (.slice A2 ((fewR f sh (bs s)).1).length c2) rfl (by kernel_rfl) (by kernel_rfl) (by kernel_rfl) (fun _ _ _ h => h) (by kernel_rfl) (fun w' hw' => by kernel_rfl) hS ?_
      refine held_take 10 (.int .i64 ((fewR f sh (bs s)).2.1)) rfl (by kernel_rfl) (by kernel_rfl) (by kernel_rfl) (fun _ _ _ h => h) (by kernel_rfl) (fun w' hw' => by kernel_rfl) hS ?_
      refine held_take 11 (.int .i64 ((fewR f sh (bs s)).2.2)) rfl (by kernel_rfl) (by kernel_rfl) (by kernel_rfl) (fun _ _ _ h => h) (by kernel_rfl) (fun w' hw' => by kernel_rfl) hS ?_
      refine held_done (by kernel_rfl) ?_
      simp only [Act.put, List.setIfInBounds_toArray, List.set_cons_succ, List.set_cons_zero]
      have hB := below_step hB hS
      have hkL := hkL.next hS
      have hkS := hkS.next hS
      have o1 := o1.next hS
      have hgx := hgx.next hS
      have hX := hX.next hS
      have z4 := hS.size
      clear hb hS 
      go_simp
      apply_assumption
      have nc1 : ((fewR f sh (bs s)).2.1 != (fewR f sh (bs s)).2.1) = false := by simp
      have nc2 : ((fewR f sh (bs s)).2.2 != (fewR f sh (bs s)).2.2) = false := by simp
      go_wp2_with fail
      go_at_call 15
      refine (eqInt64S_same _ _ _ _ ((fewR f sh (bs s)).1) _ _ rfl (by unfold maxLen; omega) o2.sl o1.sl).mono ?_
      rintro e w5 ⟨rfl, q5, rfl⟩
      have hB := below_drewN hB q5
      have hkL := hkL.drewN q5
      have hkS := hkS.drewN q5
      have o1 := o1.drewN q5
      have hgx := hgx.drewN q5
      have hX := hX.drewN q5
      have o2 := o2.drewN q5
      have z5 : (World.drewN w1 q5).heap.size = w1.heap.size := rfl
      generalize World.drewN w1 q5 = W5 at *
      go_wp2_with fail
      refine held_begin (W5.heap.size) (by kernel_rfl) ?_
      have hS := below_drewN (Below.refl (W5.heap.size) W5) 1
      refine held_take 0 (.agg (fcV f (.slice (some ⟨gx, 0, none⟩) nf nf)).toArray) rfl (by kernel_rfl) (by kernel_rfl) (by kernel_rfl) (fun _ _ _ h => h) (by kernel_rfl) (fun w' hw' => exec_load_row 36 (.tmp 11) rfl (w3.heap.size) (by kernel_rfl) 36 (fcV f (.slice (some ⟨gx, 0, none⟩) nf nf)).toArray _ _ (hX.next hw') Tryd.underlying36 rfl (ZI.out _)) hS ?_
      refine held_take 1 (.agg (fcV f (.slice Af nf cf)).toArray) rfl (by kernel_rfl) (by kernel_rfl) (by kernel_rfl) (fun _ _ _ h => h) (by kernel_rfl) (fun w' hw' => exec_load_row 26 (.tmp 3) rfl (b0) (by kernel_rfl) 26 (fcV f (.slice Af nf cf)).toArray _ _ (hkL.next hw') Tryd.underlying26 rfl (ZL.out _)) hS ?_
      refine held_call 2 12 #[.agg (fcV f (.slice Af nf cf)).toArray] rfl (by kernel_rfl) (by kernel_rfl) (by kernel_rfl) ?_
      refine (toFace_any f Af nf cf _ HF.out HN.out hsm (HS.out.next (below_step hB hS))).mono ?_
      rintro e w1 ⟨g3, cs3, rfl, _, hg3, hb⟩
      have hS := below_step hS hb
      refine ⟨_, rfl, hS, ?_⟩
      refine held_call 3 16 #[.agg (fcV f (.slice (some ⟨gx, 0, none⟩) nf nf)).toArray, .agg (fcV f (.slice (some ⟨g3, 0, none⟩) nf nf)).toArray] rfl (by kernel_rfl) (by kernel_rfl) (by kernel_rfl) ?_
      refine (eqFace_same f _ _ nf nf nf _ HF.out HN.out hsm (SlP.of_blk (hgx.next hS)) (SlP.of_blk hg3)).mono ?_
      rintro e w1 ⟨rfl, hb⟩
      have hS := below_step hS hb
      refine ⟨_, rfl, hS, ?_⟩
      refine held_take 4 (.bool false) rfl (by kernel_rfl) (by kernel_rfl) (by kernel_rfl) (fun _ _ _ h => h) (by kernel_rfl) (fun w' hw' => by kernel_rfl) hS ?_
      refine held_done (by kernel_rfl) ?_
      simp only [Act.put, List.setIfInBounds_toArray, List.set_cons_succ, List.set_cons_zero]
      have hB := below_step hB hS
      have hkL := hkL.next hS
      have hkS := hkS.next hS
      have o1 := o1.next hS
      have hgx := hgx.next hS
      have hX := hX.next hS
      have o2 := o2.next hS
      have z6 := hS.size
      clear hb hg3 hS
      go_wp2_with (refine wpList_load_row rfl 36 (.tmp 11) rfl _ rfl 36 (fcV f (.slice (some ⟨gx, 0, none⟩) nf nf)).toArray _ _ hX Tryd.underlying36 rfl (ZI.out _) ?_)
      go_at_call 17
      refine (markFace_own gx (gx + 1) gx nf nf f csgx _ HF.out HN.out hsm (Nat.le_refl _) (Nat.lt_succ_self _) ?_ hgx).mono ?_
      · have := hX.lt; omega
      rintro e w7 ⟨⟨k7, rfl, hk7, hkU7⟩, hw7⟩
      have hzB := hB.size
      clear hX hgx
      have hkL := hkL.within hw7 (by omega)
      have hkS := hkS.within hw7 (by omega)
      have o1 := o1.within hw7 (by omega)
      have o2 := o2.within hw7 (by omega)
      have hB : Below w.heap.size w w7 := hw7.below hB (by omega) hzB
      have z7 := hw7.size
      clear hw7 hzB
      go_wp2_with fail
      go_at_call 15
      refine (eqInt64S_same _ _ _ _ ((fewR f sh (bs s)).1) _ _ rfl (by unfold maxLen; omega) o2.sl o1.sl).mono ?_
      rintro e w8 ⟨rfl, q8, rfl⟩
      have hB := below_drewN hB q8
      have hkL := hkL.drewN q8
      have hkS := hkS.drewN q8
      have o1 := o1.drewN q8
      have o2 := o2.drewN q8
      have z8 : (World.drewN w7 q8).heap.size = w7.heap.size := rfl
      generalize World.drewN w7 q8 = W8 at *
      go_wp2_with fail
      go_at_call 18
      refine (markInt64S_ownS _ _ _ _ _ _ 1 _ rfl (by omega) (by omega) o2).mono ?_
      rintro e w9 ⟨rfl, o2, hw9⟩
      have hzB := hB.size
      have hkL := hkL.within hw9 (by omega)
      have hkS := hkS.within hw9 (by omega)
      have o1 := o1.within hw9 (by omega)
      have hB : Below w.heap.size w w9 := hw9.below hB (by omega) hzB
      have z9 := hw9.size
      clear hw9 hzB
      go_wp2_with fail
      go_at_call 19
      refine (heldInt64S_same _ _ _ 1 _ (by omega) (by omega) o2.sl).mono ?_
      rintro e w9h ⟨rfl, rfl⟩
      go_wp2_with fail
      refine held_begin (w9.heap.size) (by kernel_rfl) ?_
      have hS := below_drewN (Below.refl (w9.heap.size) w9) 1
      refine held_take 0 (.agg (fcV f (.slice Af nf cf)).toArray) rfl (by kernel_rfl) (by kernel_rfl) (by kernel_rfl) (fun _ _ _ h => h) (by kernel_rfl) (fun w' hw' => exec_load_row 26 (.tmp 3) rfl (b0) (by kernel_rfl) 26 (fcV f (.slice Af nf cf)).toArray _ _ (hkL.next hw') Tryd.underlying26 rfl (ZL.out _)) hS ?_
      refine held_take 2 (.agg (shV sh).toArray) rfl (by kernel_rfl) (by kernel_rfl) (by kernel_rfl) (fun _ _ _ h => h) (by kernel_rfl) (fun w' hw' => exec_load_row 29 (.tmp 4) rfl (b0 + 1) (by kernel_rfl) 29 (shV sh).toArray _ _ (hkS.next hw') Tryd.underlying29 rfl (szShL)) hS ?_
      refine held_take 4 (.string s) rfl (by kernel_rfl) (by kernel_rfl) (by kernel_rfl) (fun _ _ _ h => h) (by kernel_rfl) (fun w' hw' => by kernel_rfl) hS ?_
      refine held_call 1 12 #[.agg (fcV f (.slice Af nf cf)).toArray] rfl (by kernel_rfl) (by kernel_rfl) (by kernel_rfl) ?_
      refine (toFace_any f Af nf cf _ HF.out HN.out hsm (HS.out.next (below_step hB hS))).mono ?_
      rintro e w1 ⟨g4, csg4, rfl, hg40, hg4, hb⟩
      have hS := below_step hS hb
      refine ⟨_, rfl, hS, ?_⟩
      have y31 := hS.size
      clear hb
      refine held_call 3 13 #[.agg (shV sh).toArray] rfl (by kernel_rfl) (by kernel_rfl) (by kernel_rfl) ?_
      refine (toSheet_any sh _).mono ?_
      rintro e w1 ⟨rfl, hb⟩
      have hS := below_step hS hb
      refine ⟨_, rfl, hS, ?_⟩
      have hg4 := hg4.next hb
      have y33 := hS.size
      clear hb
      refine held_call 5 28 #[.agg (fcV f (.slice (some ⟨g4, 0, none⟩) nf nf)).toArray, .agg (shV sh).toArray, .string s] rfl (by kernel_rfl) (by kernel_rfl) (by kernel_rfl) ?_
      refine (few_impl f _ nf nf sh s _ HF.out HN.out hsm hs20 HSH.out (SlP.of_blk hg4) (HM.out.next (below_step hB hS))).mono ?_
      rintro e w1 ⟨A3, c3, rfl, hb, o3⟩
      have hS := below_step hS hb
      refine ⟨_, rfl, hS, ?_⟩
      refine held_take 6 (.tuple #[.slice A3 ((fewR f sh (bs s)).1).length c3, .int .i64 ((fewR f sh (bs s)).2.1), .int .i64 ((fewR f sh (bs s)).2.2)]) rfl (by kernel_rfl) (by kernel_rfl) (by kernel_rfl) (fun _ _ _ h => h) (by kernel_rfl) (fun w' hw' => by kernel_rfl) hS ?_
      refine held_take 7 (.slice A3 ((fewR f sh (bs s)).1).length c3) rfl (by kernel_rfl) (by kernel_rfl) (by kernel_rfl) (fun _ _ _ h => h) (by kernel_rfl) (fun w' hw' => by kernel_rfl) hS ?_
      refine held_take 8 (.int .i64 ((fewR f sh (bs s)).2.1)) rfl (by kernel_rfl) (by kernel_rfl) (by kernel_rfl) (fun _ _ _ h => h) (by kernel_rfl) (fun w' hw' => by kernel_rfl) hS ?_
      refine held_take 9 (.int .i64 ((fewR f sh (bs s)).2.2)) rfl (by kernel_rfl) (by kernel_rfl) (by kernel_rfl) (fun _ _ _ h => h) (by kernel_rfl) (fun w' hw' => by kernel_rfl) hS ?_
      refine held_take 10 (.slice A3 ((fewR f sh (bs s)).1).length c3) rfl (by kernel_rfl) (by kernel_rfl) (by kernel_rfl) (fun _ _ _ h => h) (by kernel_rfl) (fun w' hw' => by kernel_rfl) hS ?_
      refine held_take 11 (.int .i64 ((fewR f sh (bs s)).2.1)) rfl (by kernel_rfl) (by kernel_rfl) (by kernel_rfl) (fun _ _ _ h => h) (by kernel_rfl) (fun w' hw' => by kernel_rfl) hS ?_
      refine held_take 12 (.int .i64 ((fewR f sh (bs s)).2.2)) rfl (by kernel_rfl) (by kernel_rfl) (by kernel_rfl) (fun _ _ _ h => h) (by kernel_rfl) (fun w' hw' => by kernel_rfl) hS ?_
      refine held_done (by kernel_rfl) ?_
      simp only [Act.put, List.setIfInBounds_toArray, List.set_cons_succ, List.set_cons_zero]
      have hB := below_step hB hS
      have hkL := hkL.next hS
      have hkS := hkS.next hS
      have o1 := o1.next hS
      have o2 := o2.next hS
      have z10 := hS.size
      clear hb hS hg4
      go_simp
      apply_assumption
      clear hkL hkS
      go_wp2_with fail
      go_at_call 15
      refine (eqInt64S_same _ _ _ _ ((fewR f sh (bs s)).1) _ _ rfl (by unfold maxLen; omega) o3.sl o1.sl).mono ?_
      rintro e w11 ⟨rfl, q11, rfl⟩
      have hB := below_drewN hB q11
      have o1 := o1.drewN q11
      have o2 := o2.drewN q11
      have o3 := o3.drewN q11
      have z11 : (World.drewN w1 q11).heap.size = w1.heap.size := rfl
      generalize World.drewN w1 q11 = W11 at *
      go_wp2_with fail
      go_at_call 19
      refine (heldInt64S_same _ _ _ 1 _ (by omega) (by omega) o2.sl).mono ?_
      rintro e w11h ⟨rfl, rfl⟩
      go_wp2_with fail
      go_ret
      exact ⟨rfl, hB⟩

theorem own : ownKnob Tryd.prog.godebug = none := by kernel_rfl
theorem laidOut : laidOutB Tryd.prog = true := by kernel_rfl
set_option maxRecDepth 100000 in
theorem reads (os : Os) {H : Type} (enc : TypeId × Value → H) : (DataW.whole enc Tryd.prog ((World.laidAll Tryd.prog os Rows.fnExactFewestSheetsRow.laid).forCall (fun _ _ => 0) ⟨#[], #[.agg #[.int .i8 0, .int .i8 0, .int .i8 0, .int .i8 0, .int .i8 0, .int .i8 0, .int .i8 0, .int .i8 0, .int .i8 0, .int .i8 0, .int .i8 0, .int .i8 0, .int .i8 0, .int .i8 0, .int .i8 0, .int .i8 0, .int .i8 0, .int .i8 0, .int .i8 0, .int .i8 0, .int .i8 0, .int .i8 0, .int .i8 0, .int .i8 0, .int .i8 0, .int .i8 0, .int .i8 0, .int .i8 0, .slice none 0 0], .agg #[.int .i16 0, .int .i8 0], .string ⟨#[]⟩], []⟩).memory Tryd.f7.params.toList Rows.fnExactFewestSheetsSpec.vars false (#[.agg #[.int .i8 0, .int .i8 0, .int .i8 0, .int .i8 0, .int .i8 0, .int .i8 0, .int .i8 0, .int .i8 0, .int .i8 0, .int .i8 0, .int .i8 0, .int .i8 0, .int .i8 0, .int .i8 0, .int .i8 0, .int .i8 0, .int .i8 0, .int .i8 0, .int .i8 0, .int .i8 0, .int .i8 0, .int .i8 0, .int .i8 0, .int .i8 0, .int .i8 0, .int .i8 0, .int .i8 0, .int .i8 0, .slice none 0 0], .agg #[.int .i16 0, .int .i8 0], .string ⟨#[]⟩] : Array Value).toList 8).map (fun x => (x.1, x.2.1)) = some ([.agg [.agg [.lit (.int .i8 0), .lit (.int .i8 0), .lit (.int .i8 0), .lit (.int .i8 0), .lit (.int .i8 0), .lit (.int .i8 0), .lit (.int .i8 0), .lit (.int .i8 0), .lit (.int .i8 0), .lit (.int .i8 0), .lit (.int .i8 0), .lit (.int .i8 0), .lit (.int .i8 0), .lit (.int .i8 0), .lit (.int .i8 0), .lit (.int .i8 0), .lit (.int .i8 0), .lit (.int .i8 0), .lit (.int .i8 0), .lit (.int .i8 0), .lit (.int .i8 0), .lit (.int .i8 0), .lit (.int .i8 0), .lit (.int .i8 0), .lit (.int .i8 0), .lit (.int .i8 0)], .lit (.int .i8 0), .lit (.int .i8 0), .nil], .agg [.lit (.int .i16 0), .lit (.int .i8 0)], .lit (.string [])], []) := by kernel_rfl
set_option maxRecDepth 100000 in
theorem witness (os : Os) {H : Type} (enc : TypeId × Value → H) : ∃ (w : World) (tape : Tape) (i : Input), w.os = os ∧ (w.forCall tape i).Shaped Tryd.prog ∧ i.vars = [] ∧ Input.okWide Tryd.prog (w.forCall tape i) .any w.heap.size 7 i ∧
    (OpenSpec.ofChange Rows.fnExactFewestSheetsSpec).preRow enc Tryd.prog Tryd.f7 Rows.fnExactFewestSheetsRow.domain false Rows.fnExactFewestSheetsRow.laid (w.forCall tape i).memory i.args ∧ ({} : Assume).holds Tryd.prog (lone (Frame.enter Tryd.prog 7 i.args .normal) [] (w.forCall tape i)) := by
  obtain ⟨⟨x1, x2, x3⟩, hx, hx1⟩ := Option.map_eq_some_iff.1 (reads os enc)
  simp only [Prod.mk.injEq] at hx1
  obtain ⟨rfl, rfl⟩ := hx1
  have hok : Input.okWideB Tryd.prog ((World.laidAll Tryd.prog os Rows.fnExactFewestSheetsRow.laid).forCall (fun _ _ => 0) ⟨#[], #[.agg #[.int .i8 0, .int .i8 0, .int .i8 0, .int .i8 0, .int .i8 0, .int .i8 0, .int .i8 0, .int .i8 0, .int .i8 0, .int .i8 0, .int .i8 0, .int .i8 0, .int .i8 0, .int .i8 0, .int .i8 0, .int .i8 0, .int .i8 0, .int .i8 0, .int .i8 0, .int .i8 0, .int .i8 0, .int .i8 0, .int .i8 0, .int .i8 0, .int .i8 0, .int .i8 0, .int .i8 0, .int .i8 0, .slice none 0 0], .agg #[.int .i16 0, .int .i8 0], .string ⟨#[]⟩], []⟩) 7 ⟨#[], #[.agg #[.int .i8 0, .int .i8 0, .int .i8 0, .int .i8 0, .int .i8 0, .int .i8 0, .int .i8 0, .int .i8 0, .int .i8 0, .int .i8 0, .int .i8 0, .int .i8 0, .int .i8 0, .int .i8 0, .int .i8 0, .int .i8 0, .int .i8 0, .int .i8 0, .int .i8 0, .int .i8 0, .int .i8 0, .int .i8 0, .int .i8 0, .int .i8 0, .int .i8 0, .int .i8 0, .int .i8 0, .int .i8 0, .slice none 0 0], .agg #[.int .i16 0, .int .i8 0], .string ⟨#[]⟩], []⟩ = true := by kernel_rfl
  exact ⟨(World.laidAll Tryd.prog os Rows.fnExactFewestSheetsRow.laid), fun _ _ => 0, ⟨#[], #[.agg #[.int .i8 0, .int .i8 0, .int .i8 0, .int .i8 0, .int .i8 0, .int .i8 0, .int .i8 0, .int .i8 0, .int .i8 0, .int .i8 0, .int .i8 0, .int .i8 0, .int .i8 0, .int .i8 0, .int .i8 0, .int .i8 0, .int .i8 0, .int .i8 0, .int .i8 0, .int .i8 0, .int .i8 0, .int .i8 0, .int .i8 0, .int .i8 0, .int .i8 0, .int .i8 0, .int .i8 0, .int .i8 0, .slice none 0 0], .agg #[.int .i16 0, .int .i8 0], .string ⟨#[]⟩], []⟩, World.laidAll_os _ _ _, World.shaped_of_ZipB (by kernel_rfl) (by kernel_rfl), (Input.okWide_of_okWideB (base := 0) hok).1, (Input.okWide_of_okWideB hok).2,
    OpenSpec.preRow_of_cond 8 hx (by kernel_rfl) (fun k hk => by cases hk) (by kernel_rfl) (by rw [MakeChecks.laidMetH_plain _ _ _ (by kernel_rfl)]; exact laidMet_laidAll _ (by kernel_rfl) (by kernel_rfl)), by
      simp only [Assume.holds]
      exact ⟨by simp, by simp, by simp, by simp, by simp⟩⟩
set_option maxRecDepth 100000 in
theorem lifted (os : Os) (started : os.Started) (H : Type) (enc : TypeId × Value → H) (F : Stop.Interp) :
    ReturnsInHanded {} Tryd.checked os 7 .any ((OpenSpec.ofChange Rows.fnExactFewestSheetsSpec).preRow enc Tryd.prog Tryd.f7 Rows.fnExactFewestSheetsRow.domain false Rows.fnExactFewestSheetsRow.laid) (((OpenSpec.ofChange Rows.fnExactFewestSheetsSpec).at F).post enc Tryd.prog Tryd.f7 false true false false) := by
  refine returnsInHanded_of_row (C := Tryd.checked) (s := OpenSpec.ofChange Rows.fnExactFewestSheetsSpec) own started (by kernel_rfl) Tryd.func7 (witness os enc) ?_
  intro W base args ds gs before hval0 hW _ _ _ hL hsh _
  have hval : ∀ (j : Nat) t v, Tryd.f7.params[j]? = some t → args[j]? = some v → Value.okWide Tryd.prog W .any base t v := hval0
  have hW' := hW
  obtain ⟨p, q, hA0, hV, rfl, hfz, hnd⟩ := hW
  have hA : DataW.TrodAll enc Tryd.prog W 0 (fun _ => true) true Tryd.f7.params.toList args.toList ds p := hA0
  rw [Tryd.params7] at hA hval
  obtain ⟨v0, vs0, d0, ds0, p0, q0, hargs, rfl, rfl, h0, r0⟩ := trodAll_cons hA
  obtain ⟨v1, vs1, d1, ds1, p1, q1, rfl, rfl, rfl, h1, r1⟩ := trodAll_cons r0
  obtain ⟨v2, vs2, d2, ds2, p2, q2, rfl, rfl, rfl, h2, r2⟩ := trodAll_cons r1
  obtain ⟨rfl, rfl, rfl⟩ := trodAll_nil r2
  obtain rfl : args = #[v0, v1, v2] := by cases args; simp_all
  obtain ⟨rfl, rfl⟩ := trodVars_none hV
  have k0 := h0
  have lt0 : ∀ x ∈ p0, x.block < W.heap.size := by obtain ⟨m, hm⟩ := k0; exact DataW.trod_lt m _ _ _ hm
  have k1 := h1
  have lt1 : ∀ x ∈ p1, x.block < W.heap.size := by obtain ⟨m, hm⟩ := k1; exact DataW.trod_lt m _ _ _ hm
  have k2 := h2
  have lt2 : ∀ x ∈ p2, x.block < W.heap.size := by obtain ⟨m, hm⟩ := k2; exact DataW.trod_lt m _ _ _ hm
  obtain ⟨f, Af, cf, nf, rfl, hf, kf, mf, sf⟩ := open_face (hval 0 26 v0 rfl rfl) h0
  obtain ⟨sh, rfl, tsh⟩ := open_sheet (hval 1 29 v1 rfl rfl) h1
  obtain ⟨s, rfl, rfl, rfl, hs⟩ := open_string Tryd.underlying9 (hval 2 9 v2 rfl rfl) h2
  unfold maxLen at hs
  have emx := maxW_of hsh
  clear hA0 hval0
  refine (walk f Af cf nf sh s W hf kf mf sf tsh hs emx).mono fun e W' ⟨he, bel⟩ => ?_
  subst he
  exact ⟨_, rfl, _, _, _, [], _, [], hW', trodAll_mk1 (shut_bool Tryd.underlying4 _), (trodAll_cons_mk (Below.trod laidOut (by kernel_rfl) (of_decide_eq_true (by kernel_rfl)) k0 bel lt0) (trodAll_cons_mk (Below.trod laidOut (by kernel_rfl) (of_decide_eq_true (by kernel_rfl)) k1 bel lt1) (trodAll_cons_mk (Below.trod laidOut (by kernel_rfl) (of_decide_eq_true (by kernel_rfl)) k2 bel lt2) trodAll_mk0))), by first | rfl | simp, bel.frame _, fun h => by cases h⟩

theorem said : Rows.FnExactFewestSheetsSaid :=
  OpenClaim.holds_of_cond 7 Tryd.f7 rfl rfl rfl rfl rfl rfl rfl ⟨rfl, rfl, rfl, rfl, rfl⟩ rfl rfl rfl rfl rfl (by kernel_rfl) Tryd.func7 (by kernel_rfl)
    (of_decide_eq_true (by kernel_rfl)) (by unfold Func.isWrapper; first | (rw [if_pos (by decide +kernel)]; kernel_rfl) | (rw [if_neg (by decide +kernel)]; exact ⟨rfl, rfl⟩))
    (fun os started H enc _ F => by rw [OpenClaim.pre_eq_preRow]; exact lifted os started H enc F)
theorem plain (f : FuncId) (fn : Func) (hf : Tryd.pinned.checked.prog.funcNamed "loop.example/g01398/laws.FnExactFewestSheets" = some f) (hfn : Tryd.pinned.checked.prog.funcs[f]? = some fn) :
    false = Tryd.pinned.checked.prog.looks [] ∧ ∀ (j : Nat) t, fn.params[j]? = some t → Tryd.pinned.checked.prog.wantsStandIn t = false := by
  obtain rfl : f = 7 := Option.some.inj ((show Tryd.prog.funcNamed "loop.example/g01398/laws.FnExactFewestSheets" = some 7 by kernel_rfl).symm.trans hf) |>.symm
  obtain rfl : fn = Tryd.f7 := (Option.some.inj (Tryd.func7.symm.trans hfn)).symm
  refine ⟨by kernel_rfl, fun j t ht => ?_⟩
  rw [Tryd.params7] at ht
  have hm : t ∈ [26, 29, 9] := by simpa using Array.mem_of_getElem? ht
  have hall : ([26, 29, 9].all fun u => !Tryd.prog.wantsStandIn u) = true := by kernel_rfl
  exact (show Tryd.prog.wantsStandIn t = false by simpa using List.all_eq_true.1 hall t hm)
theorem proved : Rows.FnExactFewestSheetsCardSaid :=
  Claim7.holds_tied_plain_at .later [] _ _ _ _ said (fun _ h => by cases h) (by kernel_rfl) (fun _ h => by cases h) fnExactFewestSheets_row_tie rfl ⟨rfl, rfl⟩ (by kernel_rfl) rfl plain (by kernel_rfl)
#print axioms proved
end Go.Proofs.YtonnplaacebekaaDoor.lawExactFewestSheets
