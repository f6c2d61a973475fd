/- Contract: what is left of each sheet, by the program. -/
import Derived.Test.YtonnplaacebekaaDoorShR
import Derived.Test.YtonnplaacebekaaDoorShD
import Derived.Test.YtonnplaacebekaaDoorShT
import Derived.BigRegion


namespace Go.Proofs.YtonnplaacebekaaDoor
open Go Go.RowKit Go.Shelf
set_option linter.unusedVariables false
set_option linter.unusedSimpArgs false

set_option maxRecDepth 100000 in
theorem rests1_pred (w : World) : PredI 87 #[] (fun x => !inB 0 59 x) w := fun W x hb => by
  show Calls Tryd.prog 87 #[.int .i64 x] W _
  go_enter Tryd.func87, Tryd.ntmps87
  go_wp2_with (go_at_call 63; refine (withinI_any _ _ _ _).mono ?_; rintro e w1 ⟨rfl, rfl⟩)
  go_ret
  exact ⟨rfl, Below.refl _ _⟩
set_option maxRecDepth 100000 in
theorem rests2_pred (w : World) : PredI 90 #[] (fun x => decide (x < 0)) w := fun W x hb => by
  show Calls Tryd.prog 90 #[.int .i64 x] W _
  go_enter Tryd.func90, Tryd.ntmps90
  go_wp2
  go_ret
  exact ⟨rfl, Below.refl _ _⟩
theorem rstI_bound {w : Int} {ps xs : List Int} {M : Nat} (hp : ∀ k, k < ps.length → 0 ≤ rdI ps k ∧ rdI ps k ≤ 50) : ∀ k, k ≤ ps.length → ∀ j, j < M → w - 50 * (k : Int) ≤ rdI (rstI w ps xs M k) j ∧ rdI (rstI w ps xs M k) j ≤ w
  | 0, _, j, hj => by unfold rstI rdI; rw [List.getD, List.getElem?_replicate, if_pos hj]; simp
  | k + 1, hk, j, hj => by
    have ih := rstI_bound (w := w) (xs := xs) (M := M) hp k (by omega)
    have hpk := hp k (by omega)
    have h1 := ih j hj
    have e : 50 * ((k + 1 : Nat) : Int) = 50 * (k : Int) + 50 := by omega
    rw [rstI_succ, e]
    by_cases e2 : (rdI xs k).toNat = j
    · rw [e2, rdI_set _ (by rw [rstI_length]; exact hj)]; omega
    · rw [rdI_set_ne _ e2]; omega
theorem blk_row_set {w : World} {g X : Nat} {L : List Int} {cs : List Value} {v : Int} (h : Blk w g 2 (L.map i64 ++ cs)) (hX : X < L.length) : Blk (w.setCell ⟨g, X, none⟩ (.int .i64 v)) g 2 ((L.set X v).map i64 ++ cs) := by
  have := h.set X (.int .i64 v)
  rw [List.set_append_left _ _ (by simpa using hX), ← show i64 v = .int .i64 v from rfl, ← List.map_set] at this
  exact this
theorem blk_row_cell {w : World} {g X : Nat} {L : List Int} {cs : List Value} (h : Blk w g 2 (L.map i64 ++ cs)) (hX : X < L.length) : w.cell? ⟨g, X, none⟩ = some (.int .i64 (rdI L X)) := by
  refine h.cell X _ ?_
  rw [List.getElem?_append_left (by simpa using hX), List.getElem?_map, List.getElem?_eq_getElem hX]
  unfold rdI
  rw [List.getD, List.getElem?_eq_getElem hX]; rfl

attribute [local irreducible] wpAnyH in
set_option maxHeartbeats 4000000 in
set_option maxRecDepth 100000 in
theorem rests_impl (A B : Option Addr) (n c m d : Nat) (ps xs : List Int) (sh : Sh) (w : World) (hsh : ShT sh) (hn : ps.length = n) (hnb : n ≤ 60) (hm : xs.length = m) (hmb : m ≤ 1048576) (hw : 0 ≤ sh.wide ∧ sh.wide ≤ 400) (hp : ∀ k, k < ps.length → 0 ≤ rdI ps k ∧ rdI ps k ≤ 50) (ha : SlE i64 w A ps) (hb : SlE i64 w B xs) :
    Calls Tryd.prog 54 #[.agg (shV sh).toArray, .slice A n c, .slice B m d] w (RsOut w sh.wide ps xs) := by
  have eg1 : ∀ args w, (callFunc 87 args).run Tryd.prog w = .ok (.enter 87 args) w := enters_of Tryd.func87 (by kernel_rfl) rfl
  have eg2 : ∀ args w, (callFunc 90 args).run Tryd.prog w = .ok (.enter 90 args) w := enters_of Tryd.func90 (by kernel_rfl) rfl
  have hB := below_one w (.cells (shV sh).toArray 38)
  have hsb := Blk.new w 38 (shV sh)
  have HG1 := Lib.hid eg1
  have HG2 := Lib.hid eg2
  have HA0 := Lib.hid ha
  have HB0 := Lib.hid hb
  have HA := Lib.hid (ha.next hB)
  have HB := Lib.hid (hb.next hB)
  have HSB := Lib.hid hsb
  have HP := Lib.hid hp
  have HN := Lib.hid hn
  have HM := Lib.hid hm
  have hwr := hsh.wide
  clear ha hb hp hn hm eg1 eg2 hsb hsh
  by_cases hnm : n = m
  · cases hany : xs.any fun x => !inB 0 59 x
    · have hall := any_rdI.1 hany
      have HR := Lib.hid (show ∀ k, k < xs.length → inB 0 59 (rdI xs k) = true from fun k hk => by have := hall k hk; simpa using this)
      have HANY := Lib.hid hany
      clear hall hany
      by_cases hm0 : m = 0
      · subst hm0
        have HOK := Lib.hid (show rstOk sh.wide ps xs from ⟨by rw [HM.out, HN.out, hnm], fun j hj => by have := HM.out; omega⟩)
        go_enter Tryd.func54, Tryd.ntmps54
        go_wp2_with fail
        go_at_call 86
        refine (containsF_any _ #[] HG1.out (fun x => !inB 0 59 x) B 0 d xs _ HM.out (by omega) HB.out (rests1_pred _)).mono ?_
        rintro e w1 ⟨rfl, hb1⟩
        rw [HANY.out]
        have hB1 := below_step hB hb1
        have hz1 := hB1.size
        clear hb1
        go_wp2
        go_loopw [34] (fun i wr => i = .int .i64 0 ∧ Below w.heap.size w wr) (fun _ _ => 0)
        case atStart => exact ⟨rfl, hB1.alloc hz1 _⟩
        case round =>
          obtain ⟨rfl, hbel⟩ := hrel
          go_wp2_with fail
          go_at_call 86
          refine (containsF_any _ #[] HG2.out (fun x => decide (x < 0)) _ 0 0 [] _ rfl (by omega) SlE.nil (rests2_pred _)).mono ?_
          rintro e w2 ⟨rfl, hb2⟩
          go_wp2
          go_ret2
          exact ⟨_, _, [], by rw [decide_eq_true HOK.out]; rfl, below_step hbel hb2, OwnS.nil, fun _ => by rw [HM.out]; rfl⟩
      · have hmp : 0 < m := by omega
        obtain ⟨j0, hj0, ej0⟩ := mxI_mem xs m hmp
        have hr0 := inB_iff.1 (HR.out j0 (by have := HM.out; omega))
        obtain ⟨M, hM⟩ : ∃ M : Nat, (M : Int) = mxI xs m + 1 := ⟨(mxI xs m + 1).toNat, by omega⟩
        have hM60 : M ≤ 60 := by omega
        have HLT := Lib.hid (show ∀ k, k < xs.length → (rdI xs k).toNat < M from fun k hk => by
          have h1 := mxI_le xs m k (by have := HM.out; omega)
          have h2 := inB_iff.1 (HR.out k hk)
          omega)
        have HEND := Lib.hid (show M = 0 ∨ ∃ k, k < xs.length ∧ (rdI xs k).toNat + 1 = M from .inr ⟨j0, by have := HM.out; omega, by omega⟩)
        have hM1 : IntKind.i64.wrap (mxI xs m + 1) = (M : Int) := by rw [IntWalk.i64_in _ (by omega)]; omega
        have hcv : IntKind.i64.wrap sh.wide = sh.wide := IntWalk.i64_in _ (by omega)
        clear hr0 ej0 hj0
        go_enter Tryd.func54, Tryd.ntmps54
        go_wp2_with fail
        go_at_call 86
        refine (containsF_any _ #[] HG1.out (fun x => !inB 0 59 x) B m d xs _ HM.out hmb HB.out (rests1_pred _)).mono ?_
        rintro e w1 ⟨rfl, hb1⟩
        rw [HANY.out]
        have hB1 := below_step hB hb1
        have hz1 := hB1.size
        have hB2 := hb1.alloc hb1.size (.cells #[] 2)
        have HA2 := Lib.hid (HA.out.next hB2)
        have HB2 := Lib.hid (HB.out.next hB2)
        have HS2 := Lib.hid (HSB.out.next hB2)
        have hBw := hB1.alloc hz1 (.cells #[] 2)
        clear hb1 hB2 hB1 hB
        go_wp2
        generalize w1.alloc (.cells #[] 2) = W2 at *
        have hz2 := hBw.size
        refine held_begin (W2.heap.size) (by kernel_rfl) ?_
        have hS := below_drewN (Below.refl (W2.heap.size) W2) 1
        refine held_take 0 (.pointer (some ⟨w.heap.size, 0, none⟩)) rfl (by kernel_rfl) (by kernel_rfl) (by kernel_rfl) (fun _ _ _ h => h) (by kernel_rfl) (fun w' hw' => by kernel_rfl) hS ?_
        refine held_take 1 (.int .i16 sh.wide) rfl (by kernel_rfl) (by kernel_rfl) (by kernel_rfl) (fun _ _ _ h => h) (by kernel_rfl) (fun w' hw' => exec_load1 27 (.tmp 24) rfl ⟨w.heap.size, 0, none⟩ (by kernel_rfl) (.int .i16 sh.wide) ((HS2.out.next hw').cell 0 (.int .i16 sh.wide) rfl) _ Tryd.underlying27 rfl) hS ?_
        refine held_take 2 (.int .i64 sh.wide) rfl (by kernel_rfl) (by kernel_rfl) (by kernel_rfl) (fun _ _ _ h => h) (by kernel_rfl) (fun w' hw' => Eq.trans (show (execOp _ _).run _ w' = .ok (.value (.int .i64 (IntKind.i64.wrap sh.wide))) w' by kernel_rfl) (by rw [hcv])) hS ?_
        refine held_take 4 (.slice B m d) rfl (by kernel_rfl) (by kernel_rfl) (by kernel_rfl) (fun _ _ _ h => h) (by kernel_rfl) (fun w' hw' => by kernel_rfl) hS ?_
        have hadd1 : ∀ w' : World, (Result.ok (Next.value (.int .i64 (IntKind.i64.wrap (mxI xs m + 1)))) w' : Result Next) = .ok (.value (.int .i64 (M : Int))) w' := fun w' => by rw [hM1]
        refine held_slice_call 3 5 6 89 #[.slice B m d] (.int .i64 (mxI xs m)) (.int .i64 (M : Int)) 2 [.int .i64 sh.wide] rfl rfl rfl (by decide) (by decide) (by kernel_rfl) (by kernel_rfl) (by kernel_rfl) (by kernel_rfl) (by kernel_rfl) (by kernel_rfl) (by kernel_rfl) (by kernel_rfl) (fun _ _ _ h => h) rfl rfl rfl (fun w' => by kernel_rfl) (fun p w' => by kernel_rfl) (fun w' => by kernel_rfl) (fun w' => by kernel_rfl) (fun w' hw' => Eq.trans (show (execOp _ _).run _ w' = .ok (.value (.int .i64 (IntKind.i64.wrap (mxI xs m + 1)))) w' by kernel_rfl) (hadd1 w')) (fun p w' hw' => Eq.trans (show (execOp _ _).run _ w' = .ok (.value (.int .i64 (IntKind.i64.wrap (mxI xs m + 1)))) w' by kernel_rfl) (hadd1 w')) (fun w' hw' => max_any B m d xs w' HM.out hmp hmb (HB2.out.next hw')) (Nat.le_refl _) hS (fun p => by kernel_rfl) (fun p => by kernel_rfl) ?_
        intro b8 w8 hS hb8 hk8
        have y8 := hS.size
        refine held_call 7 88 #[.slice (some ⟨b8, 0, none⟩) 1 1, .int .i64 (M : Int)] rfl (by kernel_rfl) (by kernel_rfl) (by kernel_rfl) ?_
        refine (repeat_any b8 M sh.wide _ hM60 (hk8.cell 0 (.int .i64 sh.wide) rfl)).mono ?_
        rintro e w1 ⟨g, cs, rfl, hg0, hbk, hb⟩
        have hS := below_step hS hb
        refine ⟨_, rfl, hS, ?_⟩
        refine held_take 8 (.slice (some ⟨g, 0, none⟩) M M) rfl (by kernel_rfl) (by kernel_rfl) (by kernel_rfl) (fun _ _ _ h => h) (by kernel_rfl) (fun w' hw' => by kernel_rfl) hS ?_
        refine held_done (by kernel_rfl) ?_
        simp only [Act.put, List.setIfInBounds_toArray, List.set_cons_succ, List.set_cons_zero]
        have hgw : w.heap.size ≤ g := by omega
        have hbel := below_step hBw hS
        have HA3 := Lib.hid (HA2.out.next hS)
        have HB3 := Lib.hid (HB2.out.next hS)
        have hg2 : W2.heap.size ≤ g := by omega
        clear hb hS hk8 hb8 hg0 hM1 hcv hBw
        have hm0' : 0 < m := hmp
        go_wp2
        go_loopw [34] (fun i wr => ∃ k : Nat, k ≤ m ∧ i = .int .i64 k ∧ Blk wr g 2 ((rstI sh.wide ps xs M k).map i64 ++ cs) ∧ Below w.heap.size w wr) (fun i _ => m - (intOf i).toNat)
        case atStart => exact ⟨0, Nat.zero_le _, rfl, hbk, hbel⟩
        clear hbk hbel
        case round =>
          obtain ⟨k, hk, rfl, hbk, hbel⟩ := hrel
          by_cases hlt : k < m
          · obtain ⟨a, ea, hrow⟩ := (HA0.out.next hbel).some k (by have := HN.out; omega)
            obtain ⟨b, eb, hrow2⟩ := (HB0.out.next hbel).some k (by have := HM.out; omega)
            subst ea eb
            have hr1 := inB_iff.1 (HR.out k (by have := HM.out; omega))
            obtain ⟨X, hX⟩ : ∃ X : Nat, rdI xs k = X := ⟨(rdI xs k).toNat, by omega⟩
            have hXM := HLT.out k (by have := HM.out; omega)
            have hcx := hrow2.atI64 k (by have := HM.out; omega)
            have hcp := hrow.atI64 k (by have := HN.out; omega)
            rw [hX] at hcx hXM
            rw [Int.toNat_natCast] at hXM
            have HX := Lib.hid hX
            have hL := rstI_length sh.wide ps xs M k
            have hcl := blk_row_cell hbk (X := X) (by rw [hL]; exact hXM)
            have hfr := hbk.free X
            have hbd := rstI_bound (w := sh.wide) (xs := xs) (M := M) HP.out k (by have := HN.out; omega) X hXM
            have hpk := HP.out k (by have := HN.out; omega)
            have hsub : IntKind.i64.wrap (rdI (rstI sh.wide ps xs M k) X - rdI ps k) = rdI (rstI sh.wide ps xs M k) X - rdI ps k := IntWalk.i64_in _ (by omega)
            have HBK := Lib.hid (show Blk (wr.setCell ⟨g, X, none⟩ (.int .i64 (rdI (rstI sh.wide ps xs M k) X - rdI ps k))).drew g 2 ((rstI sh.wide ps xs M (k + 1)).map i64 ++ cs) by
              rw [rstI_succ, HX.out, Int.toNat_natCast]
              exact (blk_row_set hbk (by rw [hL]; exact hXM)).drew)
            clear hrow hrow2 hr1 hX hbk
            go_wp2
            go_region
            go_wp2
            go_roundw
            case rel => exact ⟨k + 1, by omega, by go_num, HBK.out, (hbel.setCell hgw _).drew⟩
            case measure => simp [intOf]; omega
          · obtain rfl : k = m := by omega
            have HBK := Lib.hid hbk
            clear hbk
            go_wp2_with fail
            go_at_call 86
            refine (containsF_any _ #[] HG2.out (fun x => decide (x < 0)) _ M M (rstI sh.wide ps xs M k) _ (rstI_length _ _ _ _ _) (by omega) (SlE.of_row HBK.out.head) (rests2_pred _)).mono ?_
            rintro e w2 ⟨rfl, hb2⟩
            have HIFF := Lib.hid (rst_ok hw.1 (fun k hk => (HP.out k hk).1) (by rw [HM.out, HN.out, hnm]) HR.out HLT.out)
            have HFIN := Lib.hid (rst_end (w := sh.wide) (ps := ps) HLT.out HEND.out)
            have hdec : (!(rstI sh.wide ps xs M k).any fun x => decide (x < 0)) = decide (rstOk sh.wide ps xs) := by
              cases ha : (rstI sh.wide ps xs M k).any fun x => decide (x < 0)
              · have h1 := any_rdI.1 ha
                rw [rstI_length] at h1
                have : rstOk sh.wide ps xs := HIFF.out.2 (fun j hj => by rw [HM.out]; have := of_decide_eq_false (h1 j hj); omega)
                rw [decide_eq_true this]; rfl
              · have : ¬ rstOk sh.wide ps xs := fun hh => by
                  have h2 := HIFF.out.1 hh
                  rw [HM.out] at h2
                  have : (rstI sh.wide ps xs M k).any (fun x => decide (x < 0)) = false := any_rdI.2 (fun j hj => decide_eq_false (by
                    have := h2 j (by rwa [rstI_length] at hj); omega))
                  rw [this] at ha; cases ha
                rw [decide_eq_false this]; rfl
            have HDEC := Lib.hid hdec
            clear hdec
            go_wp2
            go_ret2
            have hlen := rstI_length sh.wide ps xs M k
            have hb3 := HBK.out.next hb2
            refine ⟨some ⟨g, 0, none⟩, M, rstI sh.wide ps xs M k, ?_, below_step hbel hb2, OwnS.of_blk hb3 hgw hb3.lt, fun _ => by rw [← HFIN.out, HM.out]⟩
            rw [hlen, ← HDEC.out]
            rfl
    · have HBAD := Lib.hid (show ¬ rstOk sh.wide ps xs from fun hh => by
        rw [List.any_eq_true] at hany
        obtain ⟨x, hx, hb⟩ := hany
        obtain ⟨j, hj, e⟩ := List.getElem_of_mem hx
        have h1 := (hh.2 j hj).1
        rw [rdI, List.getD, List.getElem?_eq_getElem hj, e] at h1
        simp only [Option.getD_some] at h1
        rw [h1] at hb
        cases hb)
      have HANY := Lib.hid hany
      clear hany
      go_enter Tryd.func54, Tryd.ntmps54
      go_wp2_with fail
      go_at_call 86
      refine (containsF_any _ #[] HG1.out (fun x => !inB 0 59 x) B m d xs _ HM.out hmb HB.out (rests1_pred _)).mono ?_
      rintro e w1 ⟨rfl, hb1⟩
      rw [HANY.out]
      go_wp2
      go_ret2
      exact RsOut.bad (ys := []) HBAD.out (below_step hB hb1) OwnS.nil
  · have HBAD := Lib.hid (show ¬ rstOk sh.wide ps xs from fun hh => hnm (by rw [← HN.out, ← HM.out, hh.1]))
    go_enter Tryd.func54, Tryd.ntmps54
    go_wp2
    go_ret2
    exact RsOut.bad (ys := []) HBAD.out hB OwnS.nil
end Go.Proofs.YtonnplaacebekaaDoor
