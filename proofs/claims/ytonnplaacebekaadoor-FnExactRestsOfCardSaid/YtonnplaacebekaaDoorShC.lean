/- Contract: pieces given to the first sheet with room, by the reference. -/
import Derived.Test.YtonnplaacebekaaDoorShB
import Derived.BigRegion

namespace Go.Proofs.YtonnplaacebekaaDoor
open Go Go.RowKit
set_option linter.unusedVariables false
set_option linter.unusedSimpArgs false

attribute [local irreducible] wpQuiet in
set_option maxHeartbeats 4000000 in
set_option maxRecDepth 100000 in
theorem first_spec (f : Fc) (A : Option Addr) (n c : Nat) (sh : Sh) (s : ByteArray) (w : World) (hf : FcT f) (hn : f.pairs.length = n) (hm : n ≤ 1048576) (hs : s.size ≤ 1048576) (hsh : ShT sh) (h : SlP w A f.pairs) :
    Calls Tryd.prog 20 #[.agg (fcV f (.slice A n c)).toArray, .agg (shV sh).toArray, .string s] w (ShOut w (firstR f sh (bs s))) := by
  have hB := below_two w (.cells (fcV f (.slice A n c)).toArray 36) (.cells (shV sh).toArray 38)
  have hk := Blk.new w 36 (fcV f (.slice A n c))
  have hb1 := below_one (w.alloc (.cells (fcV f (.slice A n c)).toArray 36)) (.cells (shV sh).toArray 38)
  have hsb := Blk.new (w.alloc (.cells (fcV f (.slice A n c)).toArray 36)) 38 (shV sh)
  have hfa : FcAt ((w.alloc (.cells (fcV f (.slice A n c)).toArray 36)).alloc (.cells (shV sh).toArray 38)) w.heap.size f n := ⟨A, c, hk.next hb1, h.next hB⟩
  rw [World.size_alloc] at hsb
  have HF := Lib.hid hf
  have HN := Lib.hid hn
  have HA := Lib.hid hfa
  have HB := Lib.hid hsb
  have HS := Lib.hid hsh
  have HBB := Lib.hid hB
  have hwr := hsh.wide
  have hsz0 := hB.size
  clear hf hn h hfa hk hb1 hsb hsh hB
  by_cases h0 : (cutR f sh (bs s) 60).2 = 0
  · obtain ⟨hw, hp, hl⟩ := cutR_zero h0
    have HO := Lib.hid (show firstR f sh (bs s) = ((shs (fun _ => 0) sh.wide (cutR f sh (bs s) 60).1 (cutR f sh (bs s) 60).1.length).1, ((shs (fun _ => 0) sh.wide (cutR f sh (bs s) 60).1 (cutR f sh (bs s) 60).1.length).2.length : Int), 0) by unfold firstR; rw [if_pos h0])
    rw [HO.out]
    clear HO
    have HZ := Lib.hid h0
    clear h0
    generalize hD : (cutR f sh (bs s) 60).1 = D at *
    have HDD := Lib.hid hD
    clear hD
    go_enter Tryd.func20, Tryd.ntmps20
    go_wp2_with (go_at_call 41; refine (cut_spec f n w.heap.size (w.heap.size + 1) sh s 60 _ HF.out HN.out hm hs HS.out (HA.out.next (below_one _ _)) (HB.out.next (below_one _ _))).mono ?_; rintro e w1 ⟨A1, c1, rfl, hb1, ho⟩; rw [HZ.out, HDD.out]; rw [HDD.out] at ho)
    have hz1 := hb1.size
    rw [World.size_alloc, World.size_alloc, World.size_alloc] at hz1
    have hfs : FsRel ((w.alloc (.cells (fcV f (.slice A n c)).toArray 36)).alloc (.cells (shV sh).toArray 38)) (w1.alloc (.cells #[] 2)) (w.heap.size + 1 + 1 + 1) w1.heap.size (.slice (some ⟨w.heap.size + 1 + 1, 0, none⟩) 0 0) (.slice (some ⟨w1.heap.size, 0, none⟩) 0 0) A1 D [] [] := ⟨(own_next (own_empty _ _ (by simp) _ _ (by simp) 1) hb1).alloc _, own_empty _ _ rfl _ _ (by simp; omega) 1, ⟨_, _, rfl, rfl, by simp; omega, .inl (by simp), .inr (by simp)⟩, (by simpa using ho : OwnS w1 (w.heap.size + 1 + 1 + 1) w1.heap.size A1 D).next (below_one _ _), (below_step (below_one _ _) hb1).alloc (by simp; omega) _, by simp⟩
    clear hb1 ho
    generalize hW0 : (w.alloc (.cells (fcV f (.slice A n c)).toArray 36)).alloc (.cells (shV sh).toArray 38) = W0 at *
    go_loopw [9, 12, 13] (fun v u i wr => ∃ k : Nat, k ≤ D.length ∧ i = .int .i64 k ∧ FsRel W0 wr (w.heap.size + 1 + 1 + 1) w1.heap.size v u A1 D (shs (fun _ => 0) sh.wide D k).1 (shs (fun _ => 0) sh.wide D k).2) (fun _ _ i _ => D.length - (intOf i).toNat)
    case atStart => exact ⟨0, by omega, rfl, hfs⟩
    clear hfs
    case round =>
      obtain ⟨k, hk, rfl, h⟩ := hrel
      obtain ⟨r1, r2, r3⟩ := shs_range (fr := fun _ => 0) (fun m => Nat.zero_le m) hp k hk
      obtain ⟨xs, hxs⟩ : ∃ xs, xs = (shs (fun _ => 0) sh.wide D k).1 := ⟨_, rfl⟩
      obtain ⟨ys, hys⟩ : ∃ ys, ys = (shs (fun _ => 0) sh.wide D k).2 := ⟨_, rfl⟩
      rw [← hxs, ← hys] at h
      rw [← hxs] at r1
      rw [← hys] at r2 r3
      have HX := Lib.hid hxs
      have HY := Lib.hid hys
      clear hxs hys
      obtain ⟨g, cu, rfl, hcu⟩ := h.form
      by_cases hkD : k < D.length
      · obtain ⟨a, rfl, hrow⟩ := h.src.sl.some k hkD
        have HRD := Lib.hid hrow
        have hpk := hp k hkD
        have H := Lib.hid h
        have hszr := h.below.size
        have hP : pickN ys (rdI D k) (ys.length - 0) 0 = pick 0 ys (rdI D k) := rfl
        have hcw := (HB.out.next h.below).cell 0 (.int .i16 sh.wide) rfl
        have hcell := hrow.atI64 k hkD
        clear h hrow
        go_wp2
        rename World => wo
        go_loopw [14] (fun j wi => ∃ m : Nat, m ≤ ys.length ∧ j = .int .i64 m ∧ pickN ys (rdI D k) (ys.length - m) m = pick 0 ys (rdI D k) ∧ Below wo.heap.size wo wi) (fun j _ => ys.length - (intOf j).toNat)
        case atStart => exact ⟨0, Nat.zero_le _, rfl, hP, Below.refl _ _⟩
        clear hP
        case round =>
          obtain ⟨m, hm2, rfl, hP, hwi⟩ := hrel
          have hcell2 := hcell
          by_cases hlt : m < ys.length
          · obtain ⟨g', c', cs, e', hg0, hbl⟩ := H.out.at (by omega)
            cases e'
            have HRL := Lib.hid hbl.head
            have hjt : decide ((m : Int) < (ys.length : Int)) = true := decide_eq_true (by omega)
            have hr3 := r3 m hlt
            clear hbl
            by_cases hle : rdI ys m < rdI D k
            · have hlb : decide (rdI ys m < rdI D k) = true := decide_eq_true hle
              have hP' : pickN ys (rdI D k) (ys.length - (m + 1)) (m + 1) = pick 0 ys (rdI D k) := by
                rw [← hP, show ys.length - m = (ys.length - (m + 1)) + 1 by omega, pickN_miss (by omega)]
              clear hP
              go_wp2
              refine region_below (wr.heap.size) (by kernel_rfl) (by kernel_rfl) ?_
              refine below_run (by kernel_rfl) (.int .i64 m) (fun w' hw' => by kernel_rfl) ?_
              refine below_run (by kernel_rfl) (.slice (some ⟨g, 0, none⟩) ys.length cu) (fun w' hw' => by kernel_rfl) ?_
              refine below_run (by kernel_rfl) (.int .i64 ys.length) (fun w' hw' => by kernel_rfl) ?_
              refine below_run (by kernel_rfl) (.bool true) (fun w' hw' => Eq.trans (show (execOp _ _).run _ w' = .ok (.value (.bool (decide ((m : Int) < (ys.length : Int))))) w' by kernel_rfl) (by rw [hjt])) ?_
              refine below_run (by kernel_rfl) (.bool true) (fun w' hw' => by kernel_rfl) ?_
              refine below_run (by kernel_rfl) (.slice (some ⟨g, 0, none⟩) ys.length cu) (fun w' hw' => by kernel_rfl) ?_
              refine below_run (by kernel_rfl) (.int .i64 m) (fun w' hw' => by kernel_rfl) ?_
              refine below_run (by kernel_rfl) (.pointer (some (Addr.add ⟨g, 0, none⟩ (m * 1)))) (fun w' hw' => exec_index 31 (.tmp 37) (.tmp 38) rfl ⟨g, 0, none⟩ ys.length cu (by kernel_rfl) .i64 m (by kernel_rfl) hlt 2 Tryd.underlying31 1 szI64) ?_
              refine below_run (by kernel_rfl) (.int .i64 (rdI ys m)) (fun w' hw' => exec_load1 2 (.tmp 39) rfl (Addr.add ⟨g, 0, none⟩ (m * 1)) (by kernel_rfl) (.int .i64 (rdI ys m)) (by rw [Nat.mul_one]; exact (HRL.out.next (below_step hwi hw')).atI64 m hlt) _ Tryd.underlying2 rfl) ?_
              refine below_run (by kernel_rfl) (.slice (some a) D.length c1) (fun w' hw' => by kernel_rfl) ?_
              refine below_run (by kernel_rfl) (.int .i64 k) (fun w' hw' => by kernel_rfl) ?_
              refine below_run (by kernel_rfl) (.pointer (some (Addr.add a (k * 1)))) (fun w' hw' => exec_index 31 (.tmp 41) (.tmp 42) rfl a D.length c1 (by kernel_rfl) .i64 k (by kernel_rfl) hkD 2 Tryd.underlying31 1 szI64) ?_
              refine below_run (by kernel_rfl) (.int .i64 (rdI D k)) (fun w' hw' => exec_load1 2 (.tmp 43) rfl (a.add (k * 1)) (by kernel_rfl) (.int .i64 (rdI D k)) (by rw [Nat.mul_one]; exact (HRD.out.next (below_step hwi hw')).atI64 k hkD) _ Tryd.underlying2 rfl) ?_
              refine below_run (by kernel_rfl) (.bool true) (fun w' hw' => Eq.trans (show (execOp _ _).run _ w' = .ok (.value (.bool (decide (rdI ys m < rdI D k)))) w' by kernel_rfl) (by rw [hlb])) ?_
              refine below_run (by kernel_rfl) (.bool true) (fun w' hw' => by kernel_rfl) ?_
              refine wpQuiet_nil ?_
              intro W3 hW3
              simp only [Act.put, List.setIfInBounds_toArray, List.set_cons_succ, List.set_cons_zero]
              have hwi := below_step hwi hW3
              clear hW3 hjt hlb
              go_wp2
              go_roundw
              case rel => exact ⟨m + 1, by omega, by go_num, hP', hwi⟩
              case measure => simp [intOf]; omega
            · have hlb : decide (rdI ys m < rdI D k) = false := decide_eq_false hle
              have hPm : pick (0 : Nat) ys (rdI D k) = m := by
                rw [← hP, show ys.length - m = (ys.length - (m + 1)) + 1 by omega, pickN_hit (by omega)]
              have HPM := Lib.hid hPm
              clear hP hPm
              go_wp2
              refine region_below (wr.heap.size) (by kernel_rfl) (by kernel_rfl) ?_
              refine below_run (by kernel_rfl) (.int .i64 m) (fun w' hw' => by kernel_rfl) ?_
              refine below_run (by kernel_rfl) (.slice (some ⟨g, 0, none⟩) ys.length cu) (fun w' hw' => by kernel_rfl) ?_
              refine below_run (by kernel_rfl) (.int .i64 ys.length) (fun w' hw' => by kernel_rfl) ?_
              refine below_run (by kernel_rfl) (.bool true) (fun w' hw' => Eq.trans (show (execOp _ _).run _ w' = .ok (.value (.bool (decide ((m : Int) < (ys.length : Int))))) w' by kernel_rfl) (by rw [hjt])) ?_
              refine below_run (by kernel_rfl) (.bool true) (fun w' hw' => by kernel_rfl) ?_
              refine below_run (by kernel_rfl) (.slice (some ⟨g, 0, none⟩) ys.length cu) (fun w' hw' => by kernel_rfl) ?_
              refine below_run (by kernel_rfl) (.int .i64 m) (fun w' hw' => by kernel_rfl) ?_
              refine below_run (by kernel_rfl) (.pointer (some (Addr.add ⟨g, 0, none⟩ (m * 1)))) (fun w' hw' => exec_index 31 (.tmp 37) (.tmp 38) rfl ⟨g, 0, none⟩ ys.length cu (by kernel_rfl) .i64 m (by kernel_rfl) hlt 2 Tryd.underlying31 1 szI64) ?_
              refine below_run (by kernel_rfl) (.int .i64 (rdI ys m)) (fun w' hw' => exec_load1 2 (.tmp 39) rfl (Addr.add ⟨g, 0, none⟩ (m * 1)) (by kernel_rfl) (.int .i64 (rdI ys m)) (by rw [Nat.mul_one]; exact (HRL.out.next (below_step hwi hw')).atI64 m hlt) _ Tryd.underlying2 rfl) ?_
              refine below_run (by kernel_rfl) (.slice (some a) D.length c1) (fun w' hw' => by kernel_rfl) ?_
              refine below_run (by kernel_rfl) (.int .i64 k) (fun w' hw' => by kernel_rfl) ?_
              refine below_run (by kernel_rfl) (.pointer (some (Addr.add a (k * 1)))) (fun w' hw' => exec_index 31 (.tmp 41) (.tmp 42) rfl a D.length c1 (by kernel_rfl) .i64 k (by kernel_rfl) hkD 2 Tryd.underlying31 1 szI64) ?_
              refine below_run (by kernel_rfl) (.int .i64 (rdI D k)) (fun w' hw' => exec_load1 2 (.tmp 43) rfl (a.add (k * 1)) (by kernel_rfl) (.int .i64 (rdI D k)) (by rw [Nat.mul_one]; exact (HRD.out.next (below_step hwi hw')).atI64 k hkD) _ Tryd.underlying2 rfl) ?_
              refine below_run (by kernel_rfl) (.bool false) (fun w' hw' => Eq.trans (show (execOp _ _).run _ w' = .ok (.value (.bool (decide (rdI ys m < rdI D k)))) w' by kernel_rfl) (by rw [hlb])) ?_
              refine below_run (by kernel_rfl) (.bool false) (fun w' hw' => by kernel_rfl) ?_
              refine wpQuiet_nil ?_
              intro W3 hW3
              simp only [Act.put, List.setIfInBounds_toArray, List.set_cons_succ, List.set_cons_zero]
              have hwi := below_step hwi hW3
              clear hW3 hjt hlb
              have h3 := H.out.next hwi
              have hcl := h3.cell m hlt
              have hfr : W3.frozen? ⟨g, m, none⟩ = false := by obtain ⟨g', c', cs, e', _, hb⟩ := h3.at (by omega); cases e'; exact hb.free m
              have hcd := (HRD.out.next hwi).atI64 k hkD
              have hset := (h3.set m (rdI ys m - rdI D k)).drew
              have HST := Lib.hid hset
              have hsz3 := (h3.below).size
              have hsub : IntKind.i64.wrap (rdI ys m - rdI D k) = rdI ys m - rdI D k := IntWalk.i64_in _ (by omega)
              clear hset h3 hcell hcell2 hcw
              go_wp2
              go_region
              generalize World.drew (W3.setCell ⟨g, m, none⟩ (.int .i64 (rdI ys m - rdI D k))) = W4 at HST ⊢
              go_wp2_with (at_builtin; refine wpList_app1B rfl (.tmp 69) (.tmp 71) _ rfl elI W4 W0.heap.size u9 xs.length _ rfl HST.out.out _ _ rfl rfl rfl (by unfold maxLen; omega) (by omega) HST.out.below.size ?_; intro v' w' ho' hg' hwh)
              go_roundw
              case rel =>
                refine ⟨k + 1, by omega, by go_num, ?_⟩
                have hput := HST.out.putO ho' hg' hwh
                rw [shs_old (i := m) (by rw [← HY.out]; exact HPM.out) (by rw [← HY.out]; omega), ← HX.out, ← HY.out]
                exact hput
              case measure => simp [intOf]; omega
          · obtain rfl : m = ys.length := by omega
            have hPm : pick (0 : Nat) ys (rdI D k) = ys.length := by rw [← hP, Nat.sub_self]; rfl
            have HPM := Lib.hid hPm
            have hjt : decide ((ys.length : Int) < (ys.length : Int)) = false := decide_eq_false (by omega)
            clear hP hPm
            go_wp2
            refine region_below (wr.heap.size) (by kernel_rfl) (by kernel_rfl) ?_
            refine below_run (by kernel_rfl) (.int .i64 ys.length) (fun w' hw' => by kernel_rfl) ?_
            refine below_run (by kernel_rfl) (.slice (some ⟨g, 0, none⟩) ys.length cu) (fun w' hw' => by kernel_rfl) ?_
            refine below_run (by kernel_rfl) (.int .i64 ys.length) (fun w' hw' => by kernel_rfl) ?_
            refine below_run (by kernel_rfl) (.bool false) (fun w' hw' => Eq.trans (show (execOp _ _).run _ w' = .ok (.value (.bool (decide ((ys.length : Int) < (ys.length : Int))))) w' by kernel_rfl) (by rw [hjt])) ?_
            refine below_run (by kernel_rfl) (.bool false) (fun w' hw' => by kernel_rfl) ?_
            refine BigFrame.wpQuiet_skip (by kernel_rfl) ?_
            refine BigFrame.wpQuiet_skip (by kernel_rfl) ?_
            refine BigFrame.wpQuiet_skip (by kernel_rfl) ?_
            refine BigFrame.wpQuiet_skip (by kernel_rfl) ?_
            refine BigFrame.wpQuiet_skip (by kernel_rfl) ?_
            refine BigFrame.wpQuiet_skip (by kernel_rfl) ?_
            refine BigFrame.wpQuiet_skip (by kernel_rfl) ?_
            refine BigFrame.wpQuiet_skip (by kernel_rfl) ?_
            refine BigFrame.wpQuiet_skip (by kernel_rfl) ?_
            refine below_run (by kernel_rfl) (.bool false) (fun w' hw' => by kernel_rfl) ?_
            refine wpQuiet_nil ?_
            intro W3 hW3
            simp only [Act.put, List.setIfInBounds_toArray, List.set_cons_succ, List.set_cons_zero]
            have hwi := below_step hwi hW3
            clear hW3 hjt
            have h3 := H.out.next hwi
            have H3 := Lib.hid h3
            have hcw := (HB.out.next h3.below).cell 0 (.int .i16 sh.wide) rfl
            have hsz3 := h3.below.size
            have hcv : IntKind.i64.wrap sh.wide = sh.wide := IntWalk.i64_in _ (by omega)
            clear h3 hcell hcell2
            go_wp2_with (at_builtin; refine wpList_app1B rfl (.tmp 53) (.tmp 57) _ rfl elI W3 W0.heap.size (.slice (some ⟨g, 0, none⟩) ys.length cu) ys.length _ rfl H3.out.lef _ _ rfl rfl rfl (by unfold maxLen; omega) (by omega) hsz3 ?_; intro v' w' ho' hg' hwh; have h4 := H3.out.putL ho' hg' hwh; obtain ⟨g4, c4, rfl, hc4⟩ := h4.form; have hcl := h4.cell ys.length (by simp); rw [rdI_snoc] at hcl; have hfr : w'.frozen? ⟨g4, ys.length, none⟩ = false := by { obtain ⟨g', c', cs, e', _, hb⟩ := h4.at (by simp); cases e'; exact hb.free _ }; have hcd := rowI_cell h4.src.sl k hkD; have H4 := Lib.hid h4; rw [List.length_append, List.length_singleton]; clear h4 ho' hg' hwh)
            have hsub : IntKind.i64.wrap (sh.wide - rdI D k) = sh.wide - rdI D k := IntWalk.i64_in _ (by omega)
            have HST := Lib.hid (H4.out.set ys.length (sh.wide - rdI D k)).drew
            clear hcw
            go_region
            generalize World.drew (w'.setCell ⟨g4, ys.length, none⟩ (.int .i64 (sh.wide - rdI D k))) = W4 at HST ⊢
            go_wp2_with (at_builtin; refine wpList_app1B rfl (.tmp 69) (.tmp 71) _ rfl elI W4 W0.heap.size u9 xs.length _ rfl HST.out.out _ _ rfl rfl rfl (by unfold maxLen; omega) (by omega) HST.out.below.size ?_; intro v2 w2 ho2 hg2 hwh2)
            go_roundw
            case rel =>
              refine ⟨k + 1, by omega, by go_num, ?_⟩
              have hput := HST.out.putO ho2 hg2 hwh2
              rw [shs_new (by rw [← HY.out]; exact HPM.out), ← HX.out, ← HY.out]
              rw [set_snoc, List.length_append, List.length_singleton] at hput
              exact hput
            case measure => simp [intOf]; omega
      · obtain rfl : k = D.length := by omega
        have hown := h.out
        have hbel := h.below
        clear h
        go_wp2
        go_ret3
        obtain ⟨A', c', rfl, hl, ho⟩ := OwnS.of_own hown
        have hsz1 := HBB.out.size
        rw [← HX.out, ← HY.out]
        exact ⟨A', c', rfl, below_step HBB.out hbel, ho.low hsz1⟩
  · have HO := Lib.hid (show firstR f sh (bs s) = ([], 0, (cutR f sh (bs s) 60).2) by unfold firstR; rw [if_neg h0])
    rw [HO.out]
    clear HO
    obtain ⟨cd, hcd⟩ : ∃ cd, cd = (cutR f sh (bs s) 60).2 := ⟨_, rfl⟩
    have HCD := Lib.hid hcd
    rw [← hcd] at h0 ⊢
    clear hcd
    go_enter Tryd.func20, Tryd.ntmps20
    go_wp2_with (go_at_call 41; refine (cut_spec f n w.heap.size (w.heap.size + 1) sh s 60 _ HF.out HN.out hm hs HS.out (HA.out.next (below_one _ _)) (HB.out.next (below_one _ _))).mono ?_; rintro e w1 ⟨A1, c1, rfl, hb1, ho⟩; rw [← HCD.out])
    go_ret3
    exact ⟨_, _, rfl, below_step (below_step HBB.out (below_one _ _)) hb1, OwnS.nil⟩
end Go.Proofs.YtonnplaacebekaaDoor
