/- The program's RecutPrice returns what the reference's returns, for every face, all prices and all two texts, and the face stays as it was. What the library's tables hold is tied to the program's text. -/
import Derived.Test.YtonnplaacebekaaGreatDoorRows
import Derived.Test.YtonnplaacebekaaGreatDoorGE
import Derived.Test.YtonnplaacebekaaGreatDoorRcI
import Derived.Test.YtonnplaacebekaaGreatDoorOpenPc
import Derived.Test.YtonnplaacebekaaGreatDoorGB
import Derived.Test.YtonnplaacebekaaGreatDoorGC
import Derived.Test.YtonnplaacebekaaGreatDoorGA
import Derived.Test.YtonnplaacebekaaGreatDoorCards
import Derived.Test.YtonnplaacebekaaGreatDoorTie
import Derived.Lay
import Derived.LaidMore
import Derived.SevenTiedAt
import Derived.Stop.Joined
import Derived.Deep.DeepHandedRow





namespace Go.Proofs.YtonnplaacebekaaGreatDoor.lawExactRecutPrice
open Go Go.RowKit Go.ChangeShapes Go.WideShapes Go.ChangeAt Go.Proofs.YtonnplaacebekaaGreatDoor
open Go.ChangeMaps (open_string shut_string)
set_option linter.unusedVariables false
set_option linter.unusedSimpArgs false

attribute [local irreducible] wpAnyH in
set_option maxHeartbeats 4000000 in
set_option maxRecDepth 100000 in
theorem walk (f : Fc) (Af : Option Addr) (cf nf : Nat) (pc : Pc) (s : ByteArray) (t : ByteArray) (w : World) (hf : FcT f) (kf : f.pairs.length = nf) (mf : nf ≤ maxLen) (sf : SlP w Af f.pairs) (hpc : PcT pc) (hs : s.size ≤ 9223372036854775807) (ht : t.size ≤ 9223372036854775807) (hmx : MaxW w) :
    Calls Tryz.prog 5 #[.agg (fcV f (.slice Af nf cf)).toArray, .agg (pcV pc).toArray, .string s, .string t] w fun e w' => e = .returned (.bool true) ∧ Below w.heap.size w w' := by
  have hB := below_two w (.cells (fcV f (.slice Af nf cf)).toArray 26) (.cells (pcV pc).toArray 30)
  have hkL := (Blk.new w 26 (fcV f (.slice Af nf cf))).next (below_one _ (.cells (pcV pc).toArray 30))
  have hkS := Blk.new (w.alloc (.cells (fcV f (.slice Af nf cf)).toArray 26)) 30 (pcV pc)
  rw [World.size_alloc] at hkS
  have HSH := Lib.hid hpc
  have HPZ := Lib.hid (show (Tryz.prog.info? 30).map (·.size) = some (pcV pc).toArray.size by rw [List.size_toArray, pcV_length HSH.out]; exact szPcL)
  clear hpc
  have HS := Lib.hid sf
  have HN := Lib.hid kf
  have HF := Lib.hid hf
  have HM := Lib.hid hmx
  have hsz : ∀ S : Value, (fcV f S).toArray.size = 29 := fun S => by simp [fcV_length hf]
  have ZL := Lib.hid (fun S : Value => show (Tryz.prog.info? 26).map (·.size) = some (fcV f S).toArray.size by rw [hsz]; exact szFcL)
  have ZI := Lib.hid (fun S : Value => show (Tryz.prog.info? 36).map (·.size) = some (fcV f S).toArray.size by rw [hsz]; exact szFcI)
  have ZO := Lib.hid (fun S : Value => (hsz S).symm)
  clear sf kf hf hmx hsz 
  by_cases ls : (s.size : Int) > 1048576
  · clear hkL hkS
    go_enter Tryz.func5, Tryz.ntmps5
    go_wp2
    go_ret
    exact ⟨rfl, hB⟩
  · have hs20 : s.size ≤ 1048576 := by omega
    by_cases lt : (t.size : Int) > 1048576
    · clear hkL hkS
      go_enter Tryz.func5, Tryz.ntmps5
      go_wp2
      go_ret
      exact ⟨rfl, hB⟩
    · have ht20 : t.size ≤ 1048576 := by omega
      go_enter Tryz.func5, Tryz.ntmps5
      go_wp2_with (refine wpList_load_row rfl 26 (.tmp 4) rfl _ rfl 26 (fcV f (.slice Af nf cf)).toArray _ _ hkL Tryz.underlying26 rfl (ZL.out _) ?_)
      obtain ⟨b0, hb0⟩ : ∃ b0, b0 = w.heap.size := ⟨_, rfl⟩
      have hbw : w.heap.size ≤ b0 := by omega
      rw [← hb0] at hkL hkS ⊢
      clear hb0
      generalize (w.alloc (.cells (fcV f (.slice Af nf cf)).toArray 26)).alloc (.cells (pcV pc).toArray 30) = W0 at *
      have hb0l := hkL.lt
      have hb0s := hkS.lt
      go_at_call 6
      refine (szFace_any f Af nf cf 1048576 _ HF.out mf (by omega)).mono ?_
      rintro e w1 ⟨⟨v, rfl, _, hv⟩, hb⟩
      have hB := below_step hB hb
      have hkL := hkL.next hb
      have hkS := hkS.next hb
      have z1 := hb.size
      clear hb
      have HV := Lib.hid hv
      clear hv
      by_cases hv0 : v < 0
      · clear hkL hkS
        go_wp2
        go_ret
        exact ⟨rfl, hB⟩
      · have hsm : nf ≤ 1048576 := by have := HV.out (by omega); omega
        clear HV mf
        go_wp2_with fail
        refine held_begin (w1.heap.size) (by kernel_rfl) ?_
        have hS := below_drewN (Below.refl (w1.heap.size) w1) 1
        refine held_take 0 (.agg (fcV f (.slice Af nf cf)).toArray) rfl (by kernel_rfl) (by kernel_rfl) (by kernel_rfl) (fun _ _ _ h => h) (by kernel_rfl) (fun w' hw' => exec_load_row 26 (.tmp 4) rfl (b0) (by kernel_rfl) 26 (fcV f (.slice Af nf cf)).toArray _ _ (hkL.next hw') Tryz.underlying26 rfl (ZL.out _)) hS ?_
        refine held_take 2 (.agg (pcV pc).toArray) rfl (by kernel_rfl) (by kernel_rfl) (by kernel_rfl) (fun _ _ _ h => h) (by kernel_rfl) (fun w' hw' => exec_load_row 30 (.tmp 5) rfl (b0 + 1) (by kernel_rfl) 30 (pcV pc).toArray _ _ (hkS.next hw') Tryz.underlying30 rfl (HPZ.out)) hS ?_
        refine held_take 4 (.string s) rfl (by kernel_rfl) (by kernel_rfl) (by kernel_rfl) (fun _ _ _ h => h) (by kernel_rfl) (fun w' hw' => by kernel_rfl) hS ?_
        refine held_take 5 (.string t) rfl (by kernel_rfl) (by kernel_rfl) (by kernel_rfl) (fun _ _ _ h => h) (by kernel_rfl) (fun w' hw' => by kernel_rfl) hS ?_
        refine held_call 1 8 #[.agg (fcV f (.slice Af nf cf)).toArray] rfl (by kernel_rfl) (by kernel_rfl) (by kernel_rfl) ?_
        refine (toFace_any f Af nf cf _ HF.out HN.out hsm (HS.out.next (below_step hB hS))).mono ?_
        rintro e w1 ⟨g1, csg1, rfl, hg10, hg1, hb⟩
        have hS := below_step hS hb
        refine ⟨_, rfl, hS, ?_⟩
        have y11 := hS.size
        clear hb
        refine held_call 3 9 #[.agg (pcV pc).toArray] rfl (by kernel_rfl) (by kernel_rfl) (by kernel_rfl) ?_
        refine (toPrices_any pc _ HSH.out).mono ?_
        rintro e w1 ⟨rfl, hb⟩
        have hS := below_step hS hb
        refine ⟨_, rfl, hS, ?_⟩
        have hg1 := hg1.next hb
        have y13 := hS.size
        clear hb
        refine held_call 6 18 #[.agg (fcV f (.slice (some ⟨g1, 0, none⟩) nf nf)).toArray, .agg (pcV pc).toArray, .string s, .string t] rfl (by kernel_rfl) (by kernel_rfl) (by kernel_rfl) ?_
        refine (recut_spec f _ nf nf pc s t _ HF.out HN.out hsm hs20 ht20 HSH.out (SlP.of_blk hg1)).mono ?_
        rintro e w1 ⟨rfl, hb⟩
        have hS := below_step hS hb
        refine ⟨_, rfl, hS, ?_⟩
        refine held_take 7 (.tuple #[.int .i64 ((rcR f pc (bs s) (bs t)).1), .int .i64 ((rcR f pc (bs s) (bs t)).2)]) rfl (by kernel_rfl) (by kernel_rfl) (by kernel_rfl) (fun _ _ _ h => h) (by kernel_rfl) (fun w' hw' => by kernel_rfl) hS ?_
        refine held_take 8 (.int .i64 ((rcR f pc (bs s) (bs t)).1)) rfl (by kernel_rfl) (by kernel_rfl) (by kernel_rfl) (fun _ _ _ h => h) (by kernel_rfl) (fun w' hw' => by kernel_rfl) hS ?_
        refine held_take 9 (.int .i64 ((rcR f pc (bs s) (bs t)).2)) rfl (by kernel_rfl) (by kernel_rfl) (by kernel_rfl) (fun _ _ _ h => h) (by kernel_rfl) (fun w' hw' => by kernel_rfl) hS ?_
        refine held_take 10 (.int .i64 ((rcR f pc (bs s) (bs t)).1)) rfl (by kernel_rfl) (by kernel_rfl) (by kernel_rfl) (fun _ _ _ h => h) (by kernel_rfl) (fun w' hw' => by kernel_rfl) hS ?_
        refine held_take 11 (.int .i64 ((rcR f pc (bs s) (bs t)).2)) rfl (by kernel_rfl) (by kernel_rfl) (by kernel_rfl) (fun _ _ _ h => h) (by kernel_rfl) (fun w' hw' => by kernel_rfl) hS ?_
        refine held_done (by kernel_rfl) ?_
        simp only [Act.put, List.setIfInBounds_toArray, List.set_cons_succ, List.set_cons_zero]
        have hB := below_step hB hS
        have hkL := hkL.next hS
        have hkS := hkS.next hS
        have z2 := hS.size
        clear hb hS hg1
        go_simp
        apply_assumption
        go_wp2_with (refine wpList_load_row rfl 26 (.tmp 4) rfl _ rfl 26 (fcV f (.slice Af nf cf)).toArray _ _ hkL Tryz.underlying26 rfl (ZL.out _) ?_)
        go_at_call 8
        refine (toFace_any f Af nf cf _ HF.out HN.out hsm (HS.out.next hB)).mono ?_
        rintro e w3 ⟨gx, csgx, rfl, hgx0, hgx, hb⟩
        have hB := below_step hB hb
        have hkL := hkL.next hb
        have hkS := hkS.next hb
        have z3 := hb.size
        clear hb
        have lgx := hgx.lt
        have hX := Blk.new w3 36 (fcV f (.slice (some ⟨gx, 0, none⟩) nf nf))
        have hb := below_one w3 (.cells (fcV f (.slice (some ⟨gx, 0, none⟩) nf nf)).toArray 36)
        have hB2 := below_step hB hb
        have hkLN := hkL.next hb
        have hkSN := hkS.next hb
        have hgxN := hgx.next hb
        clear hb
        go_wp2_with (refine wpList_store_new rfl 36 _ _ rfl (fcV f (.slice (some ⟨gx, 0, none⟩) nf nf)).toArray rfl rfl 36 _ (ZI.out _) (ZO.out _) (one_fc _ _ _ _) ?_)
        have zx : (w3.alloc (.cells (fcV f (.slice (some ⟨gx, 0, none⟩) nf nf)).toArray 36)).heap.size = w3.heap.size + 1 := by simp
        generalize w3.alloc (.cells (fcV f (.slice (some ⟨gx, 0, none⟩) nf nf)).toArray 36) = WX at *
        have hB := hB2
        have hkL := hkLN
        have hkS := hkSN
        have hgx := hgxN
        clear hB2 hkLN hkSN hgxN
        go_wp2_with fail
        refine held_begin (WX.heap.size) (by kernel_rfl) ?_
        have hS := below_drewN (Below.refl (WX.heap.size) WX) 1
        refine held_take 0 (.agg (fcV f (.slice (some ⟨gx, 0, none⟩) nf nf)).toArray) rfl (by kernel_rfl) (by kernel_rfl) (by kernel_rfl) (fun _ _ _ h => h) (by kernel_rfl) (fun w' hw' => exec_load_row 36 (.tmp 12) rfl (w3.heap.size) (by kernel_rfl) 36 (fcV f (.slice (some ⟨gx, 0, none⟩) nf nf)).toArray _ _ (hX.next hw') Tryz.underlying36 rfl (ZI.out _)) hS ?_
        refine held_take 1 (.agg (pcV pc).toArray) rfl (by kernel_rfl) (by kernel_rfl) (by kernel_rfl) (fun _ _ _ h => h) (by kernel_rfl) (fun w' hw' => exec_load_row 30 (.tmp 5) rfl (b0 + 1) (by kernel_rfl) 30 (pcV pc).toArray _ _ (hkS.next hw') Tryz.underlying30 rfl (HPZ.out)) hS ?_
        refine held_take 3 (.string s) rfl (by kernel_rfl) (by kernel_rfl) (by kernel_rfl) (fun _ _ _ h => h) (by kernel_rfl) (fun w' hw' => by kernel_rfl) hS ?_
        refine held_take 4 (.string t) rfl (by kernel_rfl) (by kernel_rfl) (by kernel_rfl) (fun _ _ _ h => h) (by kernel_rfl) (fun w' hw' => by kernel_rfl) hS ?_
        refine held_call 2 9 #[.agg (pcV pc).toArray] rfl (by kernel_rfl) (by kernel_rfl) (by kernel_rfl) ?_
        refine (toPrices_any pc _ HSH.out).mono ?_
        rintro e w1 ⟨rfl, hb⟩
        have hS := below_step hS hb
        refine ⟨_, rfl, hS, ?_⟩
        have y22 := hS.size
        clear hb
        refine held_call 5 19 #[.agg (fcV f (.slice (some ⟨gx, 0, none⟩) nf nf)).toArray, .agg (pcV pc).toArray, .string s, .string t] rfl (by kernel_rfl) (by kernel_rfl) (by kernel_rfl) ?_
        refine (recut_impl f _ nf nf pc s t _ HF.out HN.out hsm hs20 ht20 HSH.out (SlP.of_blk (hgx.next hS)) (HM.out.next (below_step hB hS))).mono ?_
        rintro e w1 ⟨rfl, hb⟩
        have hS := below_step hS hb
        refine ⟨_, rfl, hS, ?_⟩
        refine held_take 6 (.tuple #[.int .i64 ((rcR f pc (bs s) (bs t)).1), .int .i64 ((rcR f pc (bs s) (bs t)).2)]) rfl (by kernel_rfl) (by kernel_rfl) (by kernel_rfl) (fun _ _ _ h => h) (by kernel_rfl) (fun w' hw' => by kernel_rfl) hS ?_
        refine held_take 7 (.int .i64 ((rcR f pc (bs s) (bs t)).1)) rfl (by kernel_rfl) (by kernel_rfl) (by kernel_rfl) (fun _ _ _ h => h) (by kernel_rfl) (fun w' hw' => by kernel_rfl) hS ?_
        refine held_take 8 (.int .i64 ((rcR f pc (bs s) (bs t)).2)) rfl (by kernel_rfl) (by kernel_rfl) (by kernel_rfl) (fun _ _ _ h => h) (by kernel_rfl) (fun w' hw' => by kernel_rfl) hS ?_
        refine held_take 9 (.int .i64 ((rcR f pc (bs s) (bs t)).1)) rfl (by kernel_rfl) (by kernel_rfl) (by kernel_rfl) (fun _ _ _ h => h) (by kernel_rfl) (fun w' hw' => by kernel_rfl) hS ?_
        refine held_take 10 (.int .i64 ((rcR f pc (bs s) (bs t)).2)) rfl (by kernel_rfl) (by kernel_rfl) (by kernel_rfl) (fun _ _ _ h => h) (by kernel_rfl) (fun w' hw' => by kernel_rfl) hS ?_
        refine held_done (by kernel_rfl) ?_
        simp only [Act.put, List.setIfInBounds_toArray, List.set_cons_succ, List.set_cons_zero]
        have hB := below_step hB hS
        have hkL := hkL.next hS
        have hkS := hkS.next hS
        have hgx := hgx.next hS
        have hX := hX.next hS
        have z4 := hS.size
        clear hb hS 
        go_simp
        apply_assumption
        have nc0 : ((rcR f pc (bs s) (bs t)).1 != (rcR f pc (bs s) (bs t)).1) = false := by simp
        have nc1 : ((rcR f pc (bs s) (bs t)).2 != (rcR f pc (bs s) (bs t)).2) = false := by simp
        go_wp2_with fail
        refine held_begin (w1.heap.size) (by kernel_rfl) ?_
        have hS := below_drewN (Below.refl (w1.heap.size) w1) 1
        refine held_take 0 (.agg (fcV f (.slice (some ⟨gx, 0, none⟩) nf nf)).toArray) rfl (by kernel_rfl) (by kernel_rfl) (by kernel_rfl) (fun _ _ _ h => h) (by kernel_rfl) (fun w' hw' => exec_load_row 36 (.tmp 12) rfl (w3.heap.size) (by kernel_rfl) 36 (fcV f (.slice (some ⟨gx, 0, none⟩) nf nf)).toArray _ _ (hX.next hw') Tryz.underlying36 rfl (ZI.out _)) hS ?_
        refine held_take 1 (.agg (fcV f (.slice Af nf cf)).toArray) rfl (by kernel_rfl) (by kernel_rfl) (by kernel_rfl) (fun _ _ _ h => h) (by kernel_rfl) (fun w' hw' => exec_load_row 26 (.tmp 4) rfl (b0) (by kernel_rfl) 26 (fcV f (.slice Af nf cf)).toArray _ _ (hkL.next hw') Tryz.underlying26 rfl (ZL.out _)) hS ?_
        refine held_call 2 8 #[.agg (fcV f (.slice Af nf cf)).toArray] rfl (by kernel_rfl) (by kernel_rfl) (by kernel_rfl) ?_
        refine (toFace_any f Af nf cf _ HF.out HN.out hsm (HS.out.next (below_step hB hS))).mono ?_
        rintro e w1 ⟨g3, cs3, rfl, _, hg3, hb⟩
        have hS := below_step hS hb
        refine ⟨_, rfl, hS, ?_⟩
        refine held_call 3 11 #[.agg (fcV f (.slice (some ⟨gx, 0, none⟩) nf nf)).toArray, .agg (fcV f (.slice (some ⟨g3, 0, none⟩) nf nf)).toArray] rfl (by kernel_rfl) (by kernel_rfl) (by kernel_rfl) ?_
        refine (eqFace_same f _ _ nf nf nf _ HF.out HN.out hsm (SlP.of_blk (hgx.next hS)) (SlP.of_blk hg3)).mono ?_
        rintro e w1 ⟨rfl, hb⟩
        have hS := below_step hS hb
        refine ⟨_, rfl, hS, ?_⟩
        refine held_take 4 (.bool false) rfl (by kernel_rfl) (by kernel_rfl) (by kernel_rfl) (fun _ _ _ h => h) (by kernel_rfl) (fun w' hw' => by kernel_rfl) hS ?_
        refine held_done (by kernel_rfl) ?_
        simp only [Act.put, List.setIfInBounds_toArray, List.set_cons_succ, List.set_cons_zero]
        have hB := below_step hB hS
        have hkL := hkL.next hS
        have hkS := hkS.next hS
        have hgx := hgx.next hS
        have hX := hX.next hS
        have z5 := hS.size
        clear hb hg3 hS
        clear hkL hkS hgx hX
        go_wp2
        go_ret
        exact ⟨rfl, hB⟩

theorem own : ownKnob Tryz.prog.godebug = none := by kernel_rfl
theorem laidOut : laidOutB Tryz.prog = true := by kernel_rfl
set_option maxRecDepth 100000 in
theorem reads (os : Os) {H : Type} (enc : TypeId × Value → H) : (DataW.whole enc Tryz.prog ((World.laidAll Tryz.prog os Rows.fnExactRecutPriceRow.laid).forCall (fun _ _ => 0) ⟨#[], #[.agg #[.int .i8 0, .int .i8 0, .int .i8 0, .int .i8 0, .int .i8 0, .int .i8 0, .int .i8 0, .int .i8 0, .int .i8 0, .int .i8 0, .int .i8 0, .int .i8 0, .int .i8 0, .int .i8 0, .int .i8 0, .int .i8 0, .int .i8 0, .int .i8 0, .int .i8 0, .int .i8 0, .int .i8 0, .int .i8 0, .int .i8 0, .int .i8 0, .int .i8 0, .int .i8 0, .int .i8 0, .int .i8 0, .slice none 0 0], .agg #[.int .i16 0, .int .i16 0, .int .i16 0, .int .i16 0, .int .i16 0, .int .i16 0, .int .i16 0, .int .i16 0, .int .i16 0, .int .i16 0, .int .i16 0, .int .i16 0, .int .i16 0, .int .i16 0, .int .i16 0, .int .i16 0, .int .i16 0, .int .i16 0, .int .i16 0, .int .i16 0, .int .i16 0, .int .i16 0, .int .i16 0, .int .i16 0, .int .i16 0, .int .i16 0, .int .i16 0, .int .i16 0, .int .i16 0], .string ⟨#[]⟩, .string ⟨#[]⟩], []⟩).memory Tryz.f5.params.toList Rows.fnExactRecutPriceSpec.vars false (#[.agg #[.int .i8 0, .int .i8 0, .int .i8 0, .int .i8 0, .int .i8 0, .int .i8 0, .int .i8 0, .int .i8 0, .int .i8 0, .int .i8 0, .int .i8 0, .int .i8 0, .int .i8 0, .int .i8 0, .int .i8 0, .int .i8 0, .int .i8 0, .int .i8 0, .int .i8 0, .int .i8 0, .int .i8 0, .int .i8 0, .int .i8 0, .int .i8 0, .int .i8 0, .int .i8 0, .int .i8 0, .int .i8 0, .slice none 0 0], .agg #[.int .i16 0, .int .i16 0, .int .i16 0, .int .i16 0, .int .i16 0, .int .i16 0, .int .i16 0, .int .i16 0, .int .i16 0, .int .i16 0, .int .i16 0, .int .i16 0, .int .i16 0, .int .i16 0, .int .i16 0, .int .i16 0, .int .i16 0, .int .i16 0, .int .i16 0, .int .i16 0, .int .i16 0, .int .i16 0, .int .i16 0, .int .i16 0, .int .i16 0, .int .i16 0, .int .i16 0, .int .i16 0, .int .i16 0], .string ⟨#[]⟩, .string ⟨#[]⟩] : Array Value).toList 8).map (fun x => (x.1, x.2.1)) = some ([.agg [.agg [.lit (.int .i8 0), .lit (.int .i8 0), .lit (.int .i8 0), .lit (.int .i8 0), .lit (.int .i8 0), .lit (.int .i8 0), .lit (.int .i8 0), .lit (.int .i8 0), .lit (.int .i8 0), .lit (.int .i8 0), .lit (.int .i8 0), .lit (.int .i8 0), .lit (.int .i8 0), .lit (.int .i8 0), .lit (.int .i8 0), .lit (.int .i8 0), .lit (.int .i8 0), .lit (.int .i8 0), .lit (.int .i8 0), .lit (.int .i8 0), .lit (.int .i8 0), .lit (.int .i8 0), .lit (.int .i8 0), .lit (.int .i8 0), .lit (.int .i8 0), .lit (.int .i8 0)], .lit (.int .i8 0), .lit (.int .i8 0), .nil], .agg [.agg [.lit (.int .i16 0), .lit (.int .i16 0), .lit (.int .i16 0), .lit (.int .i16 0), .lit (.int .i16 0), .lit (.int .i16 0), .lit (.int .i16 0), .lit (.int .i16 0), .lit (.int .i16 0), .lit (.int .i16 0), .lit (.int .i16 0), .lit (.int .i16 0), .lit (.int .i16 0), .lit (.int .i16 0), .lit (.int .i16 0), .lit (.int .i16 0), .lit (.int .i16 0), .lit (.int .i16 0), .lit (.int .i16 0), .lit (.int .i16 0), .lit (.int .i16 0), .lit (.int .i16 0), .lit (.int .i16 0), .lit (.int .i16 0), .lit (.int .i16 0), .lit (.int .i16 0)], .lit (.int .i16 0), .lit (.int .i16 0), .lit (.int .i16 0)], .lit (.string []), .lit (.string [])], []) := by kernel_rfl
set_option maxRecDepth 100000 in
theorem witness (os : Os) {H : Type} (enc : TypeId × Value → H) : ∃ (w : World) (tape : Tape) (i : Input), w.os = os ∧ (w.forCall tape i).Shaped Tryz.prog ∧ i.vars = [] ∧ Input.okWide Tryz.prog (w.forCall tape i) .any w.heap.size 5 i ∧
    (OpenSpec.ofChange Rows.fnExactRecutPriceSpec).preRow enc Tryz.prog Tryz.f5 Rows.fnExactRecutPriceRow.domain false Rows.fnExactRecutPriceRow.laid (w.forCall tape i).memory i.args ∧ ({} : Assume).holds Tryz.prog (lone (Frame.enter Tryz.prog 5 i.args .normal) [] (w.forCall tape i)) := by
  obtain ⟨⟨x1, x2, x3⟩, hx, hx1⟩ := Option.map_eq_some_iff.1 (reads os enc)
  simp only [Prod.mk.injEq] at hx1
  obtain ⟨rfl, rfl⟩ := hx1
  have hok : Input.okWideB Tryz.prog ((World.laidAll Tryz.prog os Rows.fnExactRecutPriceRow.laid).forCall (fun _ _ => 0) ⟨#[], #[.agg #[.int .i8 0, .int .i8 0, .int .i8 0, .int .i8 0, .int .i8 0, .int .i8 0, .int .i8 0, .int .i8 0, .int .i8 0, .int .i8 0, .int .i8 0, .int .i8 0, .int .i8 0, .int .i8 0, .int .i8 0, .int .i8 0, .int .i8 0, .int .i8 0, .int .i8 0, .int .i8 0, .int .i8 0, .int .i8 0, .int .i8 0, .int .i8 0, .int .i8 0, .int .i8 0, .int .i8 0, .int .i8 0, .slice none 0 0], .agg #[.int .i16 0, .int .i16 0, .int .i16 0, .int .i16 0, .int .i16 0, .int .i16 0, .int .i16 0, .int .i16 0, .int .i16 0, .int .i16 0, .int .i16 0, .int .i16 0, .int .i16 0, .int .i16 0, .int .i16 0, .int .i16 0, .int .i16 0, .int .i16 0, .int .i16 0, .int .i16 0, .int .i16 0, .int .i16 0, .int .i16 0, .int .i16 0, .int .i16 0, .int .i16 0, .int .i16 0, .int .i16 0, .int .i16 0], .string ⟨#[]⟩, .string ⟨#[]⟩], []⟩) 5 ⟨#[], #[.agg #[.int .i8 0, .int .i8 0, .int .i8 0, .int .i8 0, .int .i8 0, .int .i8 0, .int .i8 0, .int .i8 0, .int .i8 0, .int .i8 0, .int .i8 0, .int .i8 0, .int .i8 0, .int .i8 0, .int .i8 0, .int .i8 0, .int .i8 0, .int .i8 0, .int .i8 0, .int .i8 0, .int .i8 0, .int .i8 0, .int .i8 0, .int .i8 0, .int .i8 0, .int .i8 0, .int .i8 0, .int .i8 0, .slice none 0 0], .agg #[.int .i16 0, .int .i16 0, .int .i16 0, .int .i16 0, .int .i16 0, .int .i16 0, .int .i16 0, .int .i16 0, .int .i16 0, .int .i16 0, .int .i16 0, .int .i16 0, .int .i16 0, .int .i16 0, .int .i16 0, .int .i16 0, .int .i16 0, .int .i16 0, .int .i16 0, .int .i16 0, .int .i16 0, .int .i16 0, .int .i16 0, .int .i16 0, .int .i16 0, .int .i16 0, .int .i16 0, .int .i16 0, .int .i16 0], .string ⟨#[]⟩, .string ⟨#[]⟩], []⟩ = true := by kernel_rfl
  exact ⟨(World.laidAll Tryz.prog os Rows.fnExactRecutPriceRow.laid), fun _ _ => 0, ⟨#[], #[.agg #[.int .i8 0, .int .i8 0, .int .i8 0, .int .i8 0, .int .i8 0, .int .i8 0, .int .i8 0, .int .i8 0, .int .i8 0, .int .i8 0, .int .i8 0, .int .i8 0, .int .i8 0, .int .i8 0, .int .i8 0, .int .i8 0, .int .i8 0, .int .i8 0, .int .i8 0, .int .i8 0, .int .i8 0, .int .i8 0, .int .i8 0, .int .i8 0, .int .i8 0, .int .i8 0, .int .i8 0, .int .i8 0, .slice none 0 0], .agg #[.int .i16 0, .int .i16 0, .int .i16 0, .int .i16 0, .int .i16 0, .int .i16 0, .int .i16 0, .int .i16 0, .int .i16 0, .int .i16 0, .int .i16 0, .int .i16 0, .int .i16 0, .int .i16 0, .int .i16 0, .int .i16 0, .int .i16 0, .int .i16 0, .int .i16 0, .int .i16 0, .int .i16 0, .int .i16 0, .int .i16 0, .int .i16 0, .int .i16 0, .int .i16 0, .int .i16 0, .int .i16 0, .int .i16 0], .string ⟨#[]⟩, .string ⟨#[]⟩], []⟩, World.laidAll_os _ _ _, World.shaped_of_ZipB (by kernel_rfl) (by kernel_rfl), (Input.okWide_of_okWideB (base := 0) hok).1, (Input.okWide_of_okWideB hok).2,
    OpenSpec.preRow_of_cond 8 hx (by kernel_rfl) (fun k hk => by cases hk) (by kernel_rfl) (by rw [MakeChecks.laidMetH_plain _ _ _ (by kernel_rfl)]; exact laidMet_laidAll _ (by kernel_rfl) (by kernel_rfl)), by
      simp only [Assume.holds]
      exact ⟨by simp, by simp, by simp, by simp, by simp⟩⟩
set_option maxRecDepth 100000 in
theorem lifted (os : Os) (started : os.Started) (H : Type) (enc : TypeId × Value → H) (F : Stop.Interp) :
    ReturnsInHanded {} Tryz.checked os 5 .any ((OpenSpec.ofChange Rows.fnExactRecutPriceSpec).preRow enc Tryz.prog Tryz.f5 Rows.fnExactRecutPriceRow.domain false Rows.fnExactRecutPriceRow.laid) (((OpenSpec.ofChange Rows.fnExactRecutPriceSpec).at F).post enc Tryz.prog Tryz.f5 false true false false) := by
  refine returnsInHanded_of_row (C := Tryz.checked) (s := OpenSpec.ofChange Rows.fnExactRecutPriceSpec) own started (by kernel_rfl) Tryz.func5 (witness os enc) ?_
  intro W base args ds gs before hval0 hW _ _ _ hL hsh _
  have hval : ∀ (j : Nat) t v, Tryz.f5.params[j]? = some t → args[j]? = some v → Value.okWide Tryz.prog W .any base t v := hval0
  have hW' := hW
  obtain ⟨p, q, hA0, hV, rfl, hfz, hnd⟩ := hW
  have hA : DataW.TrodAll enc Tryz.prog W 0 (fun _ => true) true Tryz.f5.params.toList args.toList ds p := hA0
  rw [Tryz.params5] at hA hval
  obtain ⟨v0, vs0, d0, ds0, p0, q0, hargs, rfl, rfl, h0, r0⟩ := trodAll_cons hA
  obtain ⟨v1, vs1, d1, ds1, p1, q1, rfl, rfl, rfl, h1, r1⟩ := trodAll_cons r0
  obtain ⟨v2, vs2, d2, ds2, p2, q2, rfl, rfl, rfl, h2, r2⟩ := trodAll_cons r1
  obtain ⟨v3, vs3, d3, ds3, p3, q3, rfl, rfl, rfl, h3, r3⟩ := trodAll_cons r2
  obtain ⟨rfl, rfl, rfl⟩ := trodAll_nil r3
  obtain rfl : args = #[v0, v1, v2, v3] := by cases args; simp_all
  obtain ⟨rfl, rfl⟩ := trodVars_none hV
  have k0 := h0
  have lt0 : ∀ x ∈ p0, x.block < W.heap.size := by obtain ⟨m, hm⟩ := k0; exact DataW.trod_lt m _ _ _ hm
  have k1 := h1
  have lt1 : ∀ x ∈ p1, x.block < W.heap.size := by obtain ⟨m, hm⟩ := k1; exact DataW.trod_lt m _ _ _ hm
  have k2 := h2
  have lt2 : ∀ x ∈ p2, x.block < W.heap.size := by obtain ⟨m, hm⟩ := k2; exact DataW.trod_lt m _ _ _ hm
  have k3 := h3
  have lt3 : ∀ x ∈ p3, x.block < W.heap.size := by obtain ⟨m, hm⟩ := k3; exact DataW.trod_lt m _ _ _ hm
  obtain ⟨f, Af, cf, nf, rfl, hf, kf, mf, sf⟩ := open_face (hval 0 26 v0 rfl rfl) h0
  obtain ⟨pc, rfl, tpc⟩ := open_prices (hval 1 30 v1 rfl rfl) h1
  obtain ⟨s, rfl, rfl, rfl, hs⟩ := open_string Tryz.underlying9 (hval 2 9 v2 rfl rfl) h2
  unfold maxLen at hs
  obtain ⟨t, rfl, rfl, rfl, ht⟩ := open_string Tryz.underlying9 (hval 3 9 v3 rfl rfl) h3
  unfold maxLen at ht
  have emx := maxW_of hsh
  clear hA0 hval0
  refine (walk f Af cf nf pc s t W hf kf mf sf tpc hs ht emx).mono fun e W' ⟨he, bel⟩ => ?_
  subst he
  exact ⟨_, rfl, _, _, _, [], _, [], hW', trodAll_mk1 (shut_bool Tryz.underlying4 _), (trodAll_cons_mk (Below.trod laidOut (by kernel_rfl) (of_decide_eq_true (by kernel_rfl)) k0 bel lt0) (trodAll_cons_mk (Below.trod laidOut (by kernel_rfl) (of_decide_eq_true (by kernel_rfl)) k1 bel lt1) (trodAll_cons_mk (Below.trod laidOut (by kernel_rfl) (of_decide_eq_true (by kernel_rfl)) k2 bel lt2) (trodAll_cons_mk (Below.trod laidOut (by kernel_rfl) (of_decide_eq_true (by kernel_rfl)) k3 bel lt3) trodAll_mk0)))), by first | rfl | simp, bel.frame _, fun h => by cases h⟩

theorem said : Rows.FnExactRecutPriceSaid :=
  OpenClaim.holds_of_cond 5 Tryz.f5 rfl rfl rfl rfl rfl rfl rfl ⟨rfl, rfl, rfl, rfl, rfl⟩ rfl rfl rfl rfl rfl (by kernel_rfl) Tryz.func5 (by kernel_rfl)
    (of_decide_eq_true (by kernel_rfl)) (by unfold Func.isWrapper; first | (rw [if_pos (by decide +kernel)]; kernel_rfl) | (rw [if_neg (by decide +kernel)]; exact ⟨rfl, rfl⟩))
    (fun os started H enc _ F => by rw [OpenClaim.pre_eq_preRow]; exact lifted os started H enc F)
theorem plain (f : FuncId) (fn : Func) (hf : Tryz.pinned.checked.prog.funcNamed "loop.example/g01398/laws.FnExactRecutPrice" = some f) (hfn : Tryz.pinned.checked.prog.funcs[f]? = some fn) :
    false = Tryz.pinned.checked.prog.looks [] ∧ ∀ (j : Nat) t, fn.params[j]? = some t → Tryz.pinned.checked.prog.wantsStandIn t = false := by
  obtain rfl : f = 5 := Option.some.inj ((show Tryz.prog.funcNamed "loop.example/g01398/laws.FnExactRecutPrice" = some 5 by kernel_rfl).symm.trans hf) |>.symm
  obtain rfl : fn = Tryz.f5 := (Option.some.inj (Tryz.func5.symm.trans hfn)).symm
  refine ⟨by kernel_rfl, fun j t ht => ?_⟩
  rw [Tryz.params5] at ht
  have hm : t ∈ [26, 30, 9, 9] := by simpa using Array.mem_of_getElem? ht
  have hall : ([26, 30, 9, 9].all fun u => !Tryz.prog.wantsStandIn u) = true := by kernel_rfl
  exact (show Tryz.prog.wantsStandIn t = false by simpa using List.all_eq_true.1 hall t hm)
theorem proved : Rows.FnExactRecutPriceCardSaid :=
  Claim7.holds_tied_plain_at .later [] _ _ _ _ said (fun _ h => by cases h) (by kernel_rfl) (fun _ h => by cases h) fnExactRecutPrice_row_tie rfl ⟨rfl, rfl⟩ (by kernel_rfl) rfl plain (by kernel_rfl)
#print axioms proved
end Go.Proofs.YtonnplaacebekaaGreatDoor.lawExactRecutPrice
