/- The program's KeptAt returns what the reference's returns, for every face, all two texts and every shift, hands back memory of its own, and the face stays as it was. What the library's tables hold is tied to the program's text. -/
import Derived.Test.YtonnplaacebekaaDoorRows
import Derived.Test.YtonnplaacebekaaDoorGE
import Derived.Test.YtonnplaacebekaaDoorKpK
import Derived.Test.YtonnplaacebekaaDoorGB
import Derived.Test.YtonnplaacebekaaDoorGC
import Derived.Test.YtonnplaacebekaaDoorGA
import Derived.Test.YtonnplaacebekaaDoorCards
import Derived.Test.YtonnplaacebekaaDoorTie
import Derived.Lay
import Derived.LaidMore
import Derived.SevenTiedAt
import Derived.Stop.Joined
import Derived.Deep.DeepHandedRow






namespace Go.Proofs.YtonnplaacebekaaDoor.lawExactKeptAt
open Go Go.RowKit Go.ChangeShapes Go.WideShapes Go.ChangeAt Go.Proofs.YtonnplaacebekaaDoor
open Go.ChangeMaps (open_string shut_string)
set_option linter.unusedVariables false
set_option linter.unusedSimpArgs false

attribute [local irreducible] wpAnyH in
set_option maxHeartbeats 4000000 in
set_option maxRecDepth 100000 in
theorem walk (f : Fc) (Af : Option Addr) (cf nf : Nat) (s : ByteArray) (t : ByteArray) (m : Int) (w : World) (hf : FcT f) (kf : f.pairs.length = nf) (mf : nf ≤ maxLen) (sf : SlP w Af f.pairs) (hs : s.size ≤ 9223372036854775807) (ht : t.size ≤ 9223372036854775807) (bm : -9223372036854775808 ≤ m ∧ m ≤ 9223372036854775807) (hmx : MaxW w) :
    Calls Tryd.prog 8 #[.agg (fcV f (.slice Af nf cf)).toArray, .string s, .string t, .int .i64 m] w fun e w' => e = .returned (.bool true) ∧ Below w.heap.size w w' := by
  have hB := below_one w (.cells (fcV f (.slice Af nf cf)).toArray 26)
  have hkL := Blk.new w 26 (fcV f (.slice Af nf cf))
  have HS := Lib.hid sf
  have HN := Lib.hid kf
  have HF := Lib.hid hf
  have HM := Lib.hid hmx
  have hsz : ∀ S : Value, (fcV f S).toArray.size = 29 := fun S => by simp [fcV_length hf]
  have ZL := Lib.hid (fun S : Value => show (Tryd.prog.info? 26).map (·.size) = some (fcV f S).toArray.size by rw [hsz]; exact szFcL)
  have ZI := Lib.hid (fun S : Value => show (Tryd.prog.info? 36).map (·.size) = some (fcV f S).toArray.size by rw [hsz]; exact szFcI)
  have ZO := Lib.hid (fun S : Value => (hsz S).symm)
  clear sf kf hf hmx hsz 
  by_cases ls : (s.size : Int) > 1048576
  · clear hkL
    go_enter Tryd.func8, Tryd.ntmps8
    go_wp2
    go_ret
    exact ⟨rfl, hB⟩
  · have hs20 : s.size ≤ 1048576 := by omega
    by_cases lt : (t.size : Int) > 1048576
    · clear hkL
      go_enter Tryd.func8, Tryd.ntmps8
      go_wp2
      go_ret
      exact ⟨rfl, hB⟩
    · have ht20 : t.size ≤ 1048576 := by omega
      have hlen := keptOut_len f (bs s) (bs t) m
      go_enter Tryd.func8, Tryd.ntmps8
      go_wp2_with (refine wpList_load_row rfl 26 (.tmp 4) rfl _ rfl 26 (fcV f (.slice Af nf cf)).toArray _ _ hkL Tryd.underlying26 rfl (ZL.out _) ?_)
      obtain ⟨b0, hb0⟩ : ∃ b0, b0 = w.heap.size := ⟨_, rfl⟩
      have hbw : w.heap.size ≤ b0 := by omega
      rw [← hb0] at hkL ⊢
      clear hb0
      generalize w.alloc (.cells (fcV f (.slice Af nf cf)).toArray 26) = W0 at *
      have hb0l := hkL.lt
      go_at_call 10
      refine (szFace_any f Af nf cf 1048576 _ HF.out mf (by omega)).mono ?_
      rintro e w1 ⟨⟨v, rfl, _, hv⟩, hb⟩
      have hB := below_step hB hb
      have hkL := hkL.next hb
      have z1 := hb.size
      clear hb
      have HV := Lib.hid hv
      clear hv
      by_cases hv0 : v < 0
      · clear hkL
        go_wp2
        go_ret
        exact ⟨rfl, hB⟩
      · have hsm : nf ≤ 1048576 := by have := HV.out (by omega); omega
        clear HV mf
        go_wp2_with (refine wpList_load_row rfl 26 (.tmp 4) rfl _ rfl 26 (fcV f (.slice Af nf cf)).toArray _ _ hkL Tryd.underlying26 rfl (ZL.out _) ?_)
        go_at_call 12
        refine (toFace_any f Af nf cf _ HF.out HN.out hsm (HS.out.next hB)).mono ?_
        rintro e w2 ⟨g1, csg1, rfl, hg10, hg1, hb⟩
        have hB := below_step hB hb
        have hkL := hkL.next hb
        have z2 := hb.size
        clear hb
        have lg1 := hg1.lt
        go_wp2_with fail
        go_at_call 29
        refine (keptAt_spec f _ nf nf s t m _ HF.out HN.out hsm hs20 ht20 (SlP.of_blk hg1)).mono ?_
        rintro e w3 ⟨A1, c1, rfl, hb, o1⟩
        have hB := below_step hB hb
        have hkL := hkL.next hb
        have hg1 := hg1.next hb
        have z3 := hb.size
        clear hb
        clear hg1
        go_wp2_with (refine wpList_load_row rfl 26 (.tmp 4) rfl _ rfl 26 (fcV f (.slice Af nf cf)).toArray _ _ hkL Tryd.underlying26 rfl (ZL.out _) ?_)
        go_at_call 12
        refine (toFace_any f Af nf cf _ HF.out HN.out hsm (HS.out.next hB)).mono ?_
        rintro e w4 ⟨gx, csgx, rfl, hgx0, hgx, hb⟩
        have hB := below_step hB hb
        have hkL := hkL.next hb
        have o1 := o1.next hb
        have z4 := hb.size
        clear hb
        have lgx := hgx.lt
        have hX := Blk.new w4 36 (fcV f (.slice (some ⟨gx, 0, none⟩) nf nf))
        have hb := below_one w4 (.cells (fcV f (.slice (some ⟨gx, 0, none⟩) nf nf)).toArray 36)
        have hB2 := below_step hB hb
        have hkLN := hkL.next hb
        have o1N := o1.next hb
        have hgxN := hgx.next hb
        clear hb
        go_wp2_with (first
          | (refine wpList_store_new rfl 36 _ _ rfl (fcV f (.slice (some ⟨gx, 0, none⟩) nf nf)).toArray rfl rfl 36 _ (ZI.out _) (ZO.out _) (one_fc _ _ _ _) ?_)
          | (refine wpList_load_row rfl 36 (.tmp 12) rfl _ rfl 36 (fcV f (.slice (some ⟨gx, 0, none⟩) nf nf)).toArray _ _ hX Tryd.underlying36 rfl (ZI.out _) ?_))
        have zx : (w4.alloc (.cells (fcV f (.slice (some ⟨gx, 0, none⟩) nf nf)).toArray 36)).heap.size = w4.heap.size + 1 := by simp
        generalize w4.alloc (.cells (fcV f (.slice (some ⟨gx, 0, none⟩) nf nf)).toArray 36) = WX at *
        have hB := hB2
        have hkL := hkLN
        have o1 := o1N
        have hgx := hgxN
        clear hB2 hkLN o1N hgxN
        go_at_call 30
        refine (keptAt_impl f _ nf nf s t m _ HF.out HN.out hsm hs20 ht20 (SlP.of_blk hgx) (HM.out.next hB)).mono ?_
        rintro e w5 ⟨A2, c2, rfl, hb, o2⟩
        have hB := below_step hB hb
        have hkL := hkL.next hb
        have o1 := o1.next hb
        have hgx := hgx.next hb
        have hX := hX.next hb
        have z5 := hb.size
        clear hb
        have nc1 : ((keptOut f (bs s) (bs t) m).2 != (keptOut f (bs s) (bs t) m).2) = false := by simp
        go_wp2_with fail
        go_at_call 15
        refine (eqInt64S_same _ _ _ _ ((keptOut f (bs s) (bs t) m).1) _ _ rfl (by unfold maxLen; omega) o2.sl o1.sl).mono ?_
        rintro e w6 ⟨rfl, q6, rfl⟩
        have hB := below_drewN hB q6
        have hkL := hkL.drewN q6
        have o1 := o1.drewN q6
        have hgx := hgx.drewN q6
        have hX := hX.drewN q6
        have o2 := o2.drewN q6
        have z6 : (World.drewN w5 q6).heap.size = w5.heap.size := rfl
        generalize World.drewN w5 q6 = W6 at *
        go_wp2_with fail
        refine held_begin (W6.heap.size) (by kernel_rfl) ?_
        have hS := below_drewN (Below.refl (W6.heap.size) W6) 1
        refine held_take 0 (.agg (fcV f (.slice (some ⟨gx, 0, none⟩) nf nf)).toArray) rfl (by kernel_rfl) (by kernel_rfl) (by kernel_rfl) (fun _ _ _ h => h) (by kernel_rfl) (fun w' hw' => exec_load_row 36 (.tmp 12) rfl (w4.heap.size) (by kernel_rfl) 36 (fcV f (.slice (some ⟨gx, 0, none⟩) nf nf)).toArray _ _ (hX.next hw') Tryd.underlying36 rfl (ZI.out _)) hS ?_
        refine held_take 1 (.agg (fcV f (.slice Af nf cf)).toArray) rfl (by kernel_rfl) (by kernel_rfl) (by kernel_rfl) (fun _ _ _ h => h) (by kernel_rfl) (fun w' hw' => exec_load_row 26 (.tmp 4) rfl (b0) (by kernel_rfl) 26 (fcV f (.slice Af nf cf)).toArray _ _ (hkL.next hw') Tryd.underlying26 rfl (ZL.out _)) hS ?_
        refine held_call 2 12 #[.agg (fcV f (.slice Af nf cf)).toArray] rfl (by kernel_rfl) (by kernel_rfl) (by kernel_rfl) ?_
        refine (toFace_any f Af nf cf _ HF.out HN.out hsm (HS.out.next (below_step hB hS))).mono ?_
        rintro e w1 ⟨g3, cs3, rfl, _, hg3, hb⟩
        have hS := below_step hS hb
        refine ⟨_, rfl, hS, ?_⟩
        refine held_call 3 16 #[.agg (fcV f (.slice (some ⟨gx, 0, none⟩) nf nf)).toArray, .agg (fcV f (.slice (some ⟨g3, 0, none⟩) nf nf)).toArray] rfl (by kernel_rfl) (by kernel_rfl) (by kernel_rfl) ?_
        refine (eqFace_same f _ _ nf nf nf _ HF.out HN.out hsm (SlP.of_blk (hgx.next hS)) (SlP.of_blk hg3)).mono ?_
        rintro e w1 ⟨rfl, hb⟩
        have hS := below_step hS hb
        refine ⟨_, rfl, hS, ?_⟩
        refine held_take 4 (.bool false) rfl (by kernel_rfl) (by kernel_rfl) (by kernel_rfl) (fun _ _ _ h => h) (by kernel_rfl) (fun w' hw' => by kernel_rfl) hS ?_
        refine held_done (by kernel_rfl) ?_
        simp only [Act.put, List.setIfInBounds_toArray, List.set_cons_succ, List.set_cons_zero]
        have hB := below_step hB hS
        have hkL := hkL.next hS
        have o1 := o1.next hS
        have hgx := hgx.next hS
        have hX := hX.next hS
        have o2 := o2.next hS
        have z7 := hS.size
        clear hb hg3 hS
        go_wp2_with (refine wpList_load_row rfl 36 (.tmp 12) rfl _ rfl 36 (fcV f (.slice (some ⟨gx, 0, none⟩) nf nf)).toArray _ _ hX Tryd.underlying36 rfl (ZI.out _) ?_)
        go_at_call 17
        refine (markFace_own gx (gx + 1) gx nf nf f csgx _ HF.out HN.out hsm (Nat.le_refl _) (Nat.lt_succ_self _) ?_ hgx).mono ?_
        · have := hX.lt; omega
        rintro e w8 ⟨⟨k8, rfl, hk8, hkU8⟩, hw8⟩
        have hzB := hB.size
        clear hX hgx
        have hkL := hkL.within hw8 (by omega)
        have o1 := o1.within hw8 (by omega)
        have o2 := o2.within hw8 (by omega)
        have hB : Below w.heap.size w w8 := hw8.below hB (by omega) hzB
        have z8 := hw8.size
        clear hw8 hzB
        go_wp2_with fail
        go_at_call 15
        refine (eqInt64S_same _ _ _ _ ((keptOut f (bs s) (bs t) m).1) _ _ rfl (by unfold maxLen; omega) o2.sl o1.sl).mono ?_
        rintro e w9 ⟨rfl, q9, rfl⟩
        have hB := below_drewN hB q9
        have hkL := hkL.drewN q9
        have o1 := o1.drewN q9
        have o2 := o2.drewN q9
        have z9 : (World.drewN w8 q9).heap.size = w8.heap.size := rfl
        generalize World.drewN w8 q9 = W9 at *
        go_wp2_with fail
        go_at_call 18
        refine (markInt64S_ownS _ _ _ _ _ _ 1 _ rfl (by omega) (by omega) o2).mono ?_
        rintro e w10 ⟨rfl, o2, hw10⟩
        have hzB := hB.size
        have hkL := hkL.within hw10 (by omega)
        have o1 := o1.within hw10 (by omega)
        have hB : Below w.heap.size w w10 := hw10.below hB (by omega) hzB
        have z10 := hw10.size
        clear hw10 hzB
        go_wp2_with fail
        go_at_call 19
        refine (heldInt64S_same _ _ _ 1 _ (by omega) (by omega) o2.sl).mono ?_
        rintro e w10h ⟨rfl, rfl⟩
        go_wp2_with (refine wpList_load_row rfl 26 (.tmp 4) rfl _ rfl 26 (fcV f (.slice Af nf cf)).toArray _ _ hkL Tryd.underlying26 rfl (ZL.out _) ?_)
        go_at_call 12
        refine (toFace_any f Af nf cf _ HF.out HN.out hsm (HS.out.next hB)).mono ?_
        rintro e w11 ⟨g4, csg4, rfl, hg40, hg4, hb⟩
        have hB := below_step hB hb
        have hkL := hkL.next hb
        have o1 := o1.next hb
        have o2 := o2.next hb
        have z11 := hb.size
        clear hb
        have lg4 := hg4.lt
        go_wp2_with fail
        clear hkL
        go_at_call 30
        refine (keptAt_impl f _ nf nf s t m _ HF.out HN.out hsm hs20 ht20 (SlP.of_blk hg4) (HM.out.next hB)).mono ?_
        rintro e w12 ⟨A3, c3, rfl, hb, o3⟩
        have hB := below_step hB hb
        have o1 := o1.next hb
        have o2 := o2.next hb
        have hg4 := hg4.next hb
        have z12 := hb.size
        clear hb
        clear hg4
        go_wp2_with fail
        go_at_call 15
        refine (eqInt64S_same _ _ _ _ ((keptOut f (bs s) (bs t) m).1) _ _ rfl (by unfold maxLen; omega) o3.sl o1.sl).mono ?_
        rintro e w13 ⟨rfl, q13, rfl⟩
        have hB := below_drewN hB q13
        have o1 := o1.drewN q13
        have o2 := o2.drewN q13
        have o3 := o3.drewN q13
        have z13 : (World.drewN w12 q13).heap.size = w12.heap.size := rfl
        generalize World.drewN w12 q13 = W13 at *
        go_wp2_with fail
        go_at_call 19
        refine (heldInt64S_same _ _ _ 1 _ (by omega) (by omega) o2.sl).mono ?_
        rintro e w13h ⟨rfl, rfl⟩
        go_wp2_with fail
        go_ret
        exact ⟨rfl, hB⟩

theorem own : ownKnob Tryd.prog.godebug = none := by kernel_rfl
theorem laidOut : laidOutB Tryd.prog = true := by kernel_rfl
set_option maxRecDepth 100000 in
theorem reads (os : Os) {H : Type} (enc : TypeId × Value → H) : (DataW.whole enc Tryd.prog ((World.laidAll Tryd.prog os Rows.fnExactKeptAtRow.laid).forCall (fun _ _ => 0) ⟨#[], #[.agg #[.int .i8 0, .int .i8 0, .int .i8 0, .int .i8 0, .int .i8 0, .int .i8 0, .int .i8 0, .int .i8 0, .int .i8 0, .int .i8 0, .int .i8 0, .int .i8 0, .int .i8 0, .int .i8 0, .int .i8 0, .int .i8 0, .int .i8 0, .int .i8 0, .int .i8 0, .int .i8 0, .int .i8 0, .int .i8 0, .int .i8 0, .int .i8 0, .int .i8 0, .int .i8 0, .int .i8 0, .int .i8 0, .slice none 0 0], .string ⟨#[]⟩, .string ⟨#[]⟩, .int .i64 0], []⟩).memory Tryd.f8.params.toList Rows.fnExactKeptAtSpec.vars false (#[.agg #[.int .i8 0, .int .i8 0, .int .i8 0, .int .i8 0, .int .i8 0, .int .i8 0, .int .i8 0, .int .i8 0, .int .i8 0, .int .i8 0, .int .i8 0, .int .i8 0, .int .i8 0, .int .i8 0, .int .i8 0, .int .i8 0, .int .i8 0, .int .i8 0, .int .i8 0, .int .i8 0, .int .i8 0, .int .i8 0, .int .i8 0, .int .i8 0, .int .i8 0, .int .i8 0, .int .i8 0, .int .i8 0, .slice none 0 0], .string ⟨#[]⟩, .string ⟨#[]⟩, .int .i64 0] : Array Value).toList 8).map (fun x => (x.1, x.2.1)) = some ([.agg [.agg [.lit (.int .i8 0), .lit (.int .i8 0), .lit (.int .i8 0), .lit (.int .i8 0), .lit (.int .i8 0), .lit (.int .i8 0), .lit (.int .i8 0), .lit (.int .i8 0), .lit (.int .i8 0), .lit (.int .i8 0), .lit (.int .i8 0), .lit (.int .i8 0), .lit (.int .i8 0), .lit (.int .i8 0), .lit (.int .i8 0), .lit (.int .i8 0), .lit (.int .i8 0), .lit (.int .i8 0), .lit (.int .i8 0), .lit (.int .i8 0), .lit (.int .i8 0), .lit (.int .i8 0), .lit (.int .i8 0), .lit (.int .i8 0), .lit (.int .i8 0), .lit (.int .i8 0)], .lit (.int .i8 0), .lit (.int .i8 0), .nil], .lit (.string []), .lit (.string []), .lit (.int .i64 0)], []) := by kernel_rfl
set_option maxRecDepth 100000 in
theorem witness (os : Os) {H : Type} (enc : TypeId × Value → H) : ∃ (w : World) (tape : Tape) (i : Input), w.os = os ∧ (w.forCall tape i).Shaped Tryd.prog ∧ i.vars = [] ∧ Input.okWide Tryd.prog (w.forCall tape i) .any w.heap.size 8 i ∧
    (OpenSpec.ofChange Rows.fnExactKeptAtSpec).preRow enc Tryd.prog Tryd.f8 Rows.fnExactKeptAtRow.domain false Rows.fnExactKeptAtRow.laid (w.forCall tape i).memory i.args ∧ ({} : Assume).holds Tryd.prog (lone (Frame.enter Tryd.prog 8 i.args .normal) [] (w.forCall tape i)) := by
  obtain ⟨⟨x1, x2, x3⟩, hx, hx1⟩ := Option.map_eq_some_iff.1 (reads os enc)
  simp only [Prod.mk.injEq] at hx1
  obtain ⟨rfl, rfl⟩ := hx1
  have hok : Input.okWideB Tryd.prog ((World.laidAll Tryd.prog os Rows.fnExactKeptAtRow.laid).forCall (fun _ _ => 0) ⟨#[], #[.agg #[.int .i8 0, .int .i8 0, .int .i8 0, .int .i8 0, .int .i8 0, .int .i8 0, .int .i8 0, .int .i8 0, .int .i8 0, .int .i8 0, .int .i8 0, .int .i8 0, .int .i8 0, .int .i8 0, .int .i8 0, .int .i8 0, .int .i8 0, .int .i8 0, .int .i8 0, .int .i8 0, .int .i8 0, .int .i8 0, .int .i8 0, .int .i8 0, .int .i8 0, .int .i8 0, .int .i8 0, .int .i8 0, .slice none 0 0], .string ⟨#[]⟩, .string ⟨#[]⟩, .int .i64 0], []⟩) 8 ⟨#[], #[.agg #[.int .i8 0, .int .i8 0, .int .i8 0, .int .i8 0, .int .i8 0, .int .i8 0, .int .i8 0, .int .i8 0, .int .i8 0, .int .i8 0, .int .i8 0, .int .i8 0, .int .i8 0, .int .i8 0, .int .i8 0, .int .i8 0, .int .i8 0, .int .i8 0, .int .i8 0, .int .i8 0, .int .i8 0, .int .i8 0, .int .i8 0, .int .i8 0, .int .i8 0, .int .i8 0, .int .i8 0, .int .i8 0, .slice none 0 0], .string ⟨#[]⟩, .string ⟨#[]⟩, .int .i64 0], []⟩ = true := by kernel_rfl
  exact ⟨(World.laidAll Tryd.prog os Rows.fnExactKeptAtRow.laid), fun _ _ => 0, ⟨#[], #[.agg #[.int .i8 0, .int .i8 0, .int .i8 0, .int .i8 0, .int .i8 0, .int .i8 0, .int .i8 0, .int .i8 0, .int .i8 0, .int .i8 0, .int .i8 0, .int .i8 0, .int .i8 0, .int .i8 0, .int .i8 0, .int .i8 0, .int .i8 0, .int .i8 0, .int .i8 0, .int .i8 0, .int .i8 0, .int .i8 0, .int .i8 0, .int .i8 0, .int .i8 0, .int .i8 0, .int .i8 0, .int .i8 0, .slice none 0 0], .string ⟨#[]⟩, .string ⟨#[]⟩, .int .i64 0], []⟩, World.laidAll_os _ _ _, World.shaped_of_ZipB (by kernel_rfl) (by kernel_rfl), (Input.okWide_of_okWideB (base := 0) hok).1, (Input.okWide_of_okWideB hok).2,
    OpenSpec.preRow_of_cond 8 hx (by kernel_rfl) (fun k hk => by cases hk) (by kernel_rfl) (by rw [MakeChecks.laidMetH_plain _ _ _ (by kernel_rfl)]; exact laidMet_laidAll _ (by kernel_rfl) (by kernel_rfl)), by
      simp only [Assume.holds]
      exact ⟨by simp, by simp, by simp, by simp, by simp⟩⟩
set_option maxRecDepth 100000 in
theorem lifted (os : Os) (started : os.Started) (H : Type) (enc : TypeId × Value → H) (F : Stop.Interp) :
    ReturnsInHanded {} Tryd.checked os 8 .any ((OpenSpec.ofChange Rows.fnExactKeptAtSpec).preRow enc Tryd.prog Tryd.f8 Rows.fnExactKeptAtRow.domain false Rows.fnExactKeptAtRow.laid) (((OpenSpec.ofChange Rows.fnExactKeptAtSpec).at F).post enc Tryd.prog Tryd.f8 false true false false) := by
  refine returnsInHanded_of_row (C := Tryd.checked) (s := OpenSpec.ofChange Rows.fnExactKeptAtSpec) own started (by kernel_rfl) Tryd.func8 (witness os enc) ?_
  intro W base args ds gs before hval0 hW _ _ _ hL hsh _
  have hval : ∀ (j : Nat) t v, Tryd.f8.params[j]? = some t → args[j]? = some v → Value.okWide Tryd.prog W .any base t v := hval0
  have hW' := hW
  obtain ⟨p, q, hA0, hV, rfl, hfz, hnd⟩ := hW
  have hA : DataW.TrodAll enc Tryd.prog W 0 (fun _ => true) true Tryd.f8.params.toList args.toList ds p := hA0
  rw [Tryd.params8] at hA hval
  obtain ⟨v0, vs0, d0, ds0, p0, q0, hargs, rfl, rfl, h0, r0⟩ := trodAll_cons hA
  obtain ⟨v1, vs1, d1, ds1, p1, q1, rfl, rfl, rfl, h1, r1⟩ := trodAll_cons r0
  obtain ⟨v2, vs2, d2, ds2, p2, q2, rfl, rfl, rfl, h2, r2⟩ := trodAll_cons r1
  obtain ⟨v3, vs3, d3, ds3, p3, q3, rfl, rfl, rfl, h3, r3⟩ := trodAll_cons r2
  obtain ⟨rfl, rfl, rfl⟩ := trodAll_nil r3
  obtain rfl : args = #[v0, v1, v2, v3] := by cases args; simp_all
  obtain ⟨rfl, rfl⟩ := trodVars_none hV
  have k0 := h0
  have lt0 : ∀ x ∈ p0, x.block < W.heap.size := by obtain ⟨m, hm⟩ := k0; exact DataW.trod_lt m _ _ _ hm
  have k1 := h1
  have lt1 : ∀ x ∈ p1, x.block < W.heap.size := by obtain ⟨m, hm⟩ := k1; exact DataW.trod_lt m _ _ _ hm
  have k2 := h2
  have lt2 : ∀ x ∈ p2, x.block < W.heap.size := by obtain ⟨m, hm⟩ := k2; exact DataW.trod_lt m _ _ _ hm
  have k3 := h3
  have lt3 : ∀ x ∈ p3, x.block < W.heap.size := by obtain ⟨m, hm⟩ := k3; exact DataW.trod_lt m _ _ _ hm
  obtain ⟨f, Af, cf, nf, rfl, hf, kf, mf, sf⟩ := open_face (hval 0 26 v0 rfl rfl) h0
  obtain ⟨s, rfl, rfl, rfl, hs⟩ := open_string Tryd.underlying9 (hval 1 9 v1 rfl rfl) h1
  unfold maxLen at hs
  obtain ⟨t, rfl, rfl, rfl, ht⟩ := open_string Tryd.underlying9 (hval 2 9 v2 rfl rfl) h2
  unfold maxLen at ht
  obtain ⟨m, rfl, rfl, rfl, wm⟩ := open_int Tryd.underlying2 (hval 3 2 v3 rfl rfl) h3
  have bm := bounds_i64 wm
  have emx := maxW_of hsh
  clear hA0 hval0
  refine (walk f Af cf nf s t m W hf kf mf sf hs ht bm emx).mono fun e W' ⟨he, bel⟩ => ?_
  subst he
  exact ⟨_, rfl, _, _, _, [], _, [], hW', trodAll_mk1 (shut_bool Tryd.underlying4 _), (trodAll_cons_mk (Below.trod laidOut (by kernel_rfl) (of_decide_eq_true (by kernel_rfl)) k0 bel lt0) (trodAll_cons_mk (Below.trod laidOut (by kernel_rfl) (of_decide_eq_true (by kernel_rfl)) k1 bel lt1) (trodAll_cons_mk (Below.trod laidOut (by kernel_rfl) (of_decide_eq_true (by kernel_rfl)) k2 bel lt2) (trodAll_cons_mk (Below.trod laidOut (by kernel_rfl) (of_decide_eq_true (by kernel_rfl)) k3 bel lt3) trodAll_mk0)))), by first | rfl | simp, bel.frame _, fun h => by cases h⟩

theorem said : Rows.FnExactKeptAtSaid :=
  OpenClaim.holds_of_cond 8 Tryd.f8 rfl rfl rfl rfl rfl rfl rfl ⟨rfl, rfl, rfl, rfl, rfl⟩ rfl rfl rfl rfl rfl (by kernel_rfl) Tryd.func8 (by kernel_rfl)
    (of_decide_eq_true (by kernel_rfl)) (by unfold Func.isWrapper; first | (rw [if_pos (by decide +kernel)]; kernel_rfl) | (rw [if_neg (by decide +kernel)]; exact ⟨rfl, rfl⟩))
    (fun os started H enc _ F => by rw [OpenClaim.pre_eq_preRow]; exact lifted os started H enc F)
theorem plain (f : FuncId) (fn : Func) (hf : Tryd.pinned.checked.prog.funcNamed "loop.example/g01398/laws.FnExactKeptAt" = some f) (hfn : Tryd.pinned.checked.prog.funcs[f]? = some fn) :
    false = Tryd.pinned.checked.prog.looks [] ∧ ∀ (j : Nat) t, fn.params[j]? = some t → Tryd.pinned.checked.prog.wantsStandIn t = false := by
  obtain rfl : f = 8 := Option.some.inj ((show Tryd.prog.funcNamed "loop.example/g01398/laws.FnExactKeptAt" = some 8 by kernel_rfl).symm.trans hf) |>.symm
  obtain rfl : fn = Tryd.f8 := (Option.some.inj (Tryd.func8.symm.trans hfn)).symm
  refine ⟨by kernel_rfl, fun j t ht => ?_⟩
  rw [Tryd.params8] at ht
  have hm : t ∈ [26, 9, 9, 2] := by simpa using Array.mem_of_getElem? ht
  have hall : ([26, 9, 9, 2].all fun u => !Tryd.prog.wantsStandIn u) = true := by kernel_rfl
  exact (show Tryd.prog.wantsStandIn t = false by simpa using List.all_eq_true.1 hall t hm)
theorem proved : Rows.FnExactKeptAtCardSaid :=
  Claim7.holds_tied_plain_at .later [] _ _ _ _ said (fun _ h => by cases h) (by kernel_rfl) (fun _ h => by cases h) fnExactKeptAt_row_tie rfl ⟨rfl, rfl⟩ (by kernel_rfl) rfl plain (by kernel_rfl)
#print axioms proved
end Go.Proofs.YtonnplaacebekaaDoor.lawExactKeptAt
