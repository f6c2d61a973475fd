/- Contract: whether shorts are valid, by the program. -/
import Derived.Test.YtnlnjpdnhdmndaaGreatDoorSoV
import Derived.Test.YtnlnjpdnhdmndaaGreatDoorGB
namespace Go.Proofs.YtnlnjpdnhdmndaaGreatDoor
open Go Go.RowKit
set_option linter.unusedVariables false
set_option linter.unusedSimpArgs false

theorem vText_LLS {l : List UInt8} (h : LL l) (h60 : l.length ≤ 60) : vText l = true := vText_iff.2 ⟨fun i hi => by
  have := h i hi
  unfold chOk
  rw [if_neg (fun e => by rw [e] at this; revert this; decide)]
  exact this, h60⟩
theorem vWord_LLS {l : List UInt8} (h : isW l = true) (h60 : l.length ≤ 60) : vWord l = true := by
  rw [isW_iff] at h
  have ht : vText l = true := vText_LLS h.1 h60
  unfold vWord
  rw [ht, isW_iff.2 h]; rfl
theorem vWord_no_cases {l : List UInt8} (h : vWord l = false) : isW l = false ∨ 60 < l.length := by
  rcases Nat.lt_or_ge 60 l.length with h1 | h1
  · exact .inr h1
  · refine .inl ?_
    cases hw : isW l
    · rfl
    · rw [vWord_LLS hw h1] at h; cases h
theorem vWord_W {l : List UInt8} (h : vWord l = true) : isW l = true := by unfold vWord at h; rw [Bool.and_eq_true] at h; exact h.2
theorem bad1S {lo : List UInt8} (h : vWord lo = false) {x y z : Bool} : (isW lo && x && decide (lo.length ≤ 20) && y && z) = false := by
  rcases vWord_no_cases h with h | h
  · rw [h]; rfl
  · rw [decide_eq_false (show ¬ lo.length ≤ 20 by omega)]; simp
theorem bad2S {lo sh : List UInt8} (h : vWord sh = false) {x z : Bool} : (x && isW sh && decide (lo.length ≤ 20) && decide (sh.length < lo.length) && z) = false := by
  rcases vWord_no_cases h with h | h
  · rw [h]; simp
  · rcases Nat.lt_or_ge 20 lo.length with h5 | h5
    · rw [decide_eq_false (show ¬ lo.length ≤ 20 by omega)]; simp
    · rw [decide_eq_false (show ¬ sh.length < lo.length by omega)]; simp
theorem exec_str_leq {op : Oper} {a : Act} {w : World} (x y : Operand) (ho : op.op = .binOp .leq 9 x y 9) (l m : List UInt8) (hx : a.eval x = .string ⟨l.toArray⟩) (hy : a.eval y = .string ⟨m.toArray⟩) {b : Bool} (hb : (!Op.bytesLess m l) = b) :
    (execOp a.eval op).run Tryz.prog w = .ok (.value (.bool b)) w := by
  have ht := less_tot m l
  unfold execOp
  simp only [ho, hx, hy]
  go_simp
  rw [← hb, ht]
  simp
attribute [local irreducible] wpQuiet in
set_option maxHeartbeats 4000000 in
set_option maxRecDepth 100000 in
theorem shorts_impl (A : Option Addr) (c : Nat) (ps : List Sr) (n : Nat) (w : World) (hmx : MaxW w) (hn : ps.length = n) (hm : n ≤ 1048576) (hb : SrB ps 1048576) (h : SlR w A ps) :
    Calls Tryz.prog 31 #[.slice A n c] w fun e w' => e = .returned (.bool (srOk ps)) ∧ Below w.heap.size w w' := by
  have HN := Lib.hid hn
  have H := Lib.hid h
  have HB := Lib.hid hb
  have HMX := Lib.hid hmx
  clear hn h hb hmx
  go_enter Tryz.func31, Tryz.ntmps31
  repeat ((with_reducible fail_if_success (show Code.wp _ (Code.loop _) _ _ _)); first | go_values | go_skip | go_guarded | go_step | go_upon)
  go_loopw [7] (fun i wr => ∃ k : Nat, k ≤ n ∧ i = .int .i64 k ∧ SrN ps k ∧ Below w.heap.size w wr) (fun i _ => n - (intOf i).toNat)
  case atStart => exact ⟨0, by omega, rfl, srN_zero _, Below.refl _ _⟩
  case round =>
    obtain ⟨k, hk, rfl, hs, hbel⟩ := hrel
    have HS := Lib.hid hs
    clear hs
    by_cases hlt : k < n
    · obtain ⟨p, hpp, hrow⟩ := (H.out.next hbel).get k (by rw [HN.out]; exact hlt)
      obtain ⟨z1, z2⟩ := HB.out k (by rw [HN.out]; exact hlt)
      have HA := Lib.hid (H.out.next hbel)
      have HB1 := Lib.hid (below_step hbel (below_one wr (.cells (srV (rdSr ps k)).toArray 62)))
      have HA := Lib.hid (HA.out.next (below_one wr (.cells (srV (rdSr ps k)).toArray 62)))
      have hk2 := Blk.new wr 62 (srV (rdSr ps k))
      have HAT := Lib.hid (show srAt ps k = (isW (rdSr ps k).lo && isW (rdSr ps k).sh && decide ((rdSr ps k).lo.length ≤ 20) && decide ((rdSr ps k).sh.length < (rdSr ps k).lo.length) && (decide (k = 0) || Op.bytesLess (rdSr ps (k - 1)).lo (rdSr ps k).lo)) from rfl)
      have HBD := Lib.hid (fun (g : srAt ps k = false) => srOk_bad (ps := ps) (by rw [HN.out]; exact hlt) g)
      clear hbel
      subst hpp
      repeat ((with_reducible fail_if_success (show wpList _ _ _ (⟨some 11, _, _, _, _, _⟩ :: _) _ _)); first | go_values | go_skip | go_guarded | go_step | go_upon)
      refine wpList_loadV rfl 62 (.tmp 10) rfl (p.add (k * 2)) rfl (srV (rdSr ps k)) _ hrow Tryz.underlying62 rfl szSrI ?_
      clear hrow
      repeat ((with_reducible fail_if_success (show wpList _ _ _ (⟨none, .store 62 (.tmp 4) (.tmp 11), _, _, _, _⟩ :: _) _ _)); first | go_values | go_skip | go_guarded | go_step | go_upon)
      refine wpList_store_new rfl 62 (.tmp 4) (.tmp 11) rfl (srV (rdSr ps k)).toArray rfl rfl 62 _ szSrI rfl (one_sr _) ?_
      obtain ⟨lo, hlo⟩ : ∃ lo, lo = (rdSr ps k).lo := ⟨_, rfl⟩
      obtain ⟨sh, hsh⟩ : ∃ sh, sh = (rdSr ps k).sh := ⟨_, rfl⟩
      have c0 : (wr.alloc (.cells (srV (rdSr ps k)).toArray 62)).cell? ⟨wr.heap.size, 0, none⟩ = some (.string ⟨lo.toArray⟩) := by rw [hlo]; exact hk2.cell 0 _ rfl
      have c1 : (wr.alloc (.cells (srV (rdSr ps k)).toArray 62)).cell? ⟨wr.heap.size, 1, none⟩ = some (.string ⟨sh.toArray⟩) := by rw [hsh]; exact hk2.cell 1 _ rfl
      clear hk2
      generalize wr.alloc (.cells (srV (rdSr ps k)).toArray 62) = W1 at *
      generalize wr.heap.size = g at *
      rw [← hlo] at z1 HAT
      rw [← hsh] at z2 HAT
      have HLO := Lib.hid hlo
      have HC0 := Lib.hid c0
      have HC1 := Lib.hid c1
      clear hsh hlo c0 c1
      obtain ⟨b1, hb1⟩ : ∃ b, b = vWord lo := ⟨_, rfl⟩
      obtain ⟨b2, hb2⟩ : ∃ b, b = vWord sh := ⟨_, rfl⟩
      have HW1 := Lib.hid (fun (W : World) (hx : MaxW W) => (show Calls Tryz.prog 51 #[.string ⟨lo.toArray⟩] W (fun e w' => e = .returned (.bool b1) ∧ Below W.heap.size W w') by rw [hb1]; exact (word_impl ⟨lo.toArray⟩ W (szL z1) hx).mono fun e w' ⟨he, q, hq⟩ => ⟨he, by rw [hq]; exact below_drewN (Below.refl _ _) q⟩))
      have HW2 := Lib.hid (fun (W : World) (hx : MaxW W) => (show Calls Tryz.prog 51 #[.string ⟨sh.toArray⟩] W (fun e w' => e = .returned (.bool b2) ∧ Below W.heap.size W w') by rw [hb2]; exact (word_impl ⟨sh.toArray⟩ W (szL z2) hx).mono fun e w' ⟨he, q, hq⟩ => ⟨he, by rw [hq]; exact below_drewN (Below.refl _ _) q⟩))
      have HV1 := Lib.hid hb1.symm
      have HV2 := Lib.hid hb2.symm
      clear hb1 hb2
      repeat ((with_reducible fail_if_success (show Code.wp _ (Code.region 4 _ _) _ _ _)); first | go_values | go_skip | go_guarded | go_step | go_upon)
      cases b1
      · have HF := Lib.hid (HBD.out (HAT.out.trans (bad1S HV1.out)))
        clear HBD HAT
        refine region_below (W1.heap.size) (by kernel_rfl) (by kernel_rfl) ?_
        refine below_run (by kernel_rfl) (.pointer (some ⟨g, 0, none⟩)) (fun w' hw' => by kernel_rfl) ?_
        refine below_run (by kernel_rfl) (.string ⟨lo.toArray⟩) (fun w' hw' => exec_load1 9 (.tmp 12) rfl ⟨g, 0, none⟩ (by kernel_rfl) (.string ⟨lo.toArray⟩) (cell_next HC0.out hw') _ Tryz.underlying9 rfl) ?_
        refine below_call (by kernel_rfl) 51 #[.string ⟨lo.toArray⟩] (.bool false) (fun w' => by kernel_rfl) (fun w' hw' => (HW1.out w' ((HMX.out.next HB1.out).next hw')).mono fun e w1 ⟨he, hb1⟩ => ⟨he, below_step hw' hb1⟩) ?_
        refine below_run (by kernel_rfl) (.bool true) (fun w' hw' => by kernel_rfl) ?_
        refine below_run (by kernel_rfl) (.bool true) (fun w' hw' => by kernel_rfl) ?_
        refine BigFrame.wpQuiet_skip (by kernel_rfl) ?_
        refine BigFrame.wpQuiet_skip (by kernel_rfl) ?_
        refine BigFrame.wpQuiet_skip (by kernel_rfl) ?_
        refine BigFrame.wpQuiet_skip (by kernel_rfl) ?_
        refine below_run (by kernel_rfl) (.bool true) (fun w' hw' => by kernel_rfl) ?_
        refine below_run (by kernel_rfl) (.bool true) (fun w' hw' => by kernel_rfl) ?_
        refine BigFrame.wpQuiet_skip (by kernel_rfl) ?_
        refine BigFrame.wpQuiet_skip (by kernel_rfl) ?_
        refine BigFrame.wpQuiet_skip (by kernel_rfl) ?_
        refine BigFrame.wpQuiet_skip (by kernel_rfl) ?_
        refine below_run (by kernel_rfl) (.bool true) (fun w' hw' => by kernel_rfl) ?_
        refine below_run (by kernel_rfl) (.bool true) (fun w' hw' => by kernel_rfl) ?_
        refine BigFrame.wpQuiet_skip (by kernel_rfl) ?_
        refine BigFrame.wpQuiet_skip (by kernel_rfl) ?_
        refine BigFrame.wpQuiet_skip (by kernel_rfl) ?_
        refine BigFrame.wpQuiet_skip (by kernel_rfl) ?_
        refine BigFrame.wpQuiet_skip (by kernel_rfl) ?_
        refine BigFrame.wpQuiet_skip (by kernel_rfl) ?_
        refine BigFrame.wpQuiet_skip (by kernel_rfl) ?_
        refine below_run (by kernel_rfl) (.bool true) (fun w' hw' => by kernel_rfl) ?_
        refine below_run (by kernel_rfl) (.bool true) (fun w' hw' => by kernel_rfl) ?_
        refine BigFrame.wpQuiet_skip (by kernel_rfl) ?_
        refine BigFrame.wpQuiet_skip (by kernel_rfl) ?_
        refine BigFrame.wpQuiet_skip (by kernel_rfl) ?_
        refine BigFrame.wpQuiet_skip (by kernel_rfl) ?_
        refine BigFrame.wpQuiet_skip (by kernel_rfl) ?_
        refine BigFrame.wpQuiet_skip (by kernel_rfl) ?_
        refine BigFrame.wpQuiet_skip (by kernel_rfl) ?_
        refine BigFrame.wpQuiet_skip (by kernel_rfl) ?_
        refine BigFrame.wpQuiet_skip (by kernel_rfl) ?_
        refine BigFrame.wpQuiet_skip (by kernel_rfl) ?_
        refine BigFrame.wpQuiet_skip (by kernel_rfl) ?_
        refine BigFrame.wpQuiet_skip (by kernel_rfl) ?_
        refine BigFrame.wpQuiet_skip (by kernel_rfl) ?_
        refine below_run (by kernel_rfl) (.bool true) (fun w' hw' => by kernel_rfl) ?_
        refine wpQuiet_nil ?_
        intro W2 hW2
        simp only [Act.put, List.setIfInBounds_toArray, List.set_cons_succ, List.set_cons_zero]
        have HB2 := Lib.hid (below_step HB1.out hW2)
        clear hW2
        repeat (first | go_values | go_skip | go_guarded | go_step | go_upon)
        go_ret
        exact ⟨by rw [HF.out] <;> rfl, HB2.out⟩
      · cases b2
        · have HF := Lib.hid (HBD.out (HAT.out.trans (bad2S HV2.out)))
          clear HBD HAT
          refine region_below (W1.heap.size) (by kernel_rfl) (by kernel_rfl) ?_
          refine below_run (by kernel_rfl) (.pointer (some ⟨g, 0, none⟩)) (fun w' hw' => by kernel_rfl) ?_
          refine below_run (by kernel_rfl) (.string ⟨lo.toArray⟩) (fun w' hw' => exec_load1 9 (.tmp 12) rfl ⟨g, 0, none⟩ (by kernel_rfl) (.string ⟨lo.toArray⟩) (cell_next HC0.out hw') _ Tryz.underlying9 rfl) ?_
          refine below_call (by kernel_rfl) 51 #[.string ⟨lo.toArray⟩] (.bool true) (fun w' => by kernel_rfl) (fun w' hw' => (HW1.out w' ((HMX.out.next HB1.out).next hw')).mono fun e w1 ⟨he, hb1⟩ => ⟨he, below_step hw' hb1⟩) ?_
          refine below_run (by kernel_rfl) (.bool false) (fun w' hw' => by kernel_rfl) ?_
          refine below_run (by kernel_rfl) (.bool false) (fun w' hw' => by kernel_rfl) ?_
          refine below_run (by kernel_rfl) (.pointer (some ⟨g, 1, none⟩)) (fun w' hw' => by kernel_rfl) ?_
          refine below_run (by kernel_rfl) (.string ⟨sh.toArray⟩) (fun w' hw' => exec_load1 9 (.tmp 17) rfl ⟨g, 1, none⟩ (by kernel_rfl) (.string ⟨sh.toArray⟩) (cell_next HC1.out hw') _ Tryz.underlying9 rfl) ?_
          refine below_call (by kernel_rfl) 51 #[.string ⟨sh.toArray⟩] (.bool false) (fun w' => by kernel_rfl) (fun w' hw' => (HW2.out w' ((HMX.out.next HB1.out).next hw')).mono fun e w1 ⟨he, hb1⟩ => ⟨he, below_step hw' hb1⟩) ?_
          refine below_run (by kernel_rfl) (.bool true) (fun w' hw' => by kernel_rfl) ?_
          refine below_run (by kernel_rfl) (.bool true) (fun w' hw' => by kernel_rfl) ?_
          refine below_run (by kernel_rfl) (.bool true) (fun w' hw' => by kernel_rfl) ?_
          refine BigFrame.wpQuiet_skip (by kernel_rfl) ?_
          refine BigFrame.wpQuiet_skip (by kernel_rfl) ?_
          refine BigFrame.wpQuiet_skip (by kernel_rfl) ?_
          refine BigFrame.wpQuiet_skip (by kernel_rfl) ?_
          refine below_run (by kernel_rfl) (.bool true) (fun w' hw' => by kernel_rfl) ?_
          refine below_run (by kernel_rfl) (.bool true) (fun w' hw' => by kernel_rfl) ?_
          refine BigFrame.wpQuiet_skip (by kernel_rfl) ?_
          refine BigFrame.wpQuiet_skip (by kernel_rfl) ?_
          refine BigFrame.wpQuiet_skip (by kernel_rfl) ?_
          refine BigFrame.wpQuiet_skip (by kernel_rfl) ?_
          refine BigFrame.wpQuiet_skip (by kernel_rfl) ?_
          refine BigFrame.wpQuiet_skip (by kernel_rfl) ?_
          refine BigFrame.wpQuiet_skip (by kernel_rfl) ?_
          refine below_run (by kernel_rfl) (.bool true) (fun w' hw' => by kernel_rfl) ?_
          refine below_run (by kernel_rfl) (.bool true) (fun w' hw' => by kernel_rfl) ?_
          refine BigFrame.wpQuiet_skip (by kernel_rfl) ?_
          refine BigFrame.wpQuiet_skip (by kernel_rfl) ?_
          refine BigFrame.wpQuiet_skip (by kernel_rfl) ?_
          refine BigFrame.wpQuiet_skip (by kernel_rfl) ?_
          refine BigFrame.wpQuiet_skip (by kernel_rfl) ?_
          refine BigFrame.wpQuiet_skip (by kernel_rfl) ?_
          refine BigFrame.wpQuiet_skip (by kernel_rfl) ?_
          refine BigFrame.wpQuiet_skip (by kernel_rfl) ?_
          refine BigFrame.wpQuiet_skip (by kernel_rfl) ?_
          refine BigFrame.wpQuiet_skip (by kernel_rfl) ?_
          refine BigFrame.wpQuiet_skip (by kernel_rfl) ?_
          refine BigFrame.wpQuiet_skip (by kernel_rfl) ?_
          refine BigFrame.wpQuiet_skip (by kernel_rfl) ?_
          refine below_run (by kernel_rfl) (.bool true) (fun w' hw' => by kernel_rfl) ?_
          refine wpQuiet_nil ?_
          intro W2 hW2
          simp only [Act.put, List.setIfInBounds_toArray, List.set_cons_succ, List.set_cons_zero]
          have HB2 := Lib.hid (below_step HB1.out hW2)
          clear hW2
          repeat (first | go_values | go_skip | go_guarded | go_step | go_upon)
          go_ret
          exact ⟨by rw [HF.out] <;> rfl, HB2.out⟩
        · by_cases h3 : (20 : Int) < ((lo.length : Nat) : Int)
          · have q3 := decide_eq_true h3
            have HF := Lib.hid (HBD.out (by rw [HAT.out, decide_eq_false (show ¬ lo.length ≤ 20 by omega)]; simp))
            clear HBD HAT
            refine region_below (W1.heap.size) (by kernel_rfl) (by kernel_rfl) ?_
            refine below_run (by kernel_rfl) (.pointer (some ⟨g, 0, none⟩)) (fun w' hw' => by kernel_rfl) ?_
            refine below_run (by kernel_rfl) (.string ⟨lo.toArray⟩) (fun w' hw' => exec_load1 9 (.tmp 12) rfl ⟨g, 0, none⟩ (by kernel_rfl) (.string ⟨lo.toArray⟩) (cell_next HC0.out hw') _ Tryz.underlying9 rfl) ?_
            refine below_call (by kernel_rfl) 51 #[.string ⟨lo.toArray⟩] (.bool true) (fun w' => by kernel_rfl) (fun w' hw' => (HW1.out w' ((HMX.out.next HB1.out).next hw')).mono fun e w1 ⟨he, hb1⟩ => ⟨he, below_step hw' hb1⟩) ?_
            refine below_run (by kernel_rfl) (.bool false) (fun w' hw' => by kernel_rfl) ?_
            refine below_run (by kernel_rfl) (.bool false) (fun w' hw' => by kernel_rfl) ?_
            refine below_run (by kernel_rfl) (.pointer (some ⟨g, 1, none⟩)) (fun w' hw' => by kernel_rfl) ?_
            refine below_run (by kernel_rfl) (.string ⟨sh.toArray⟩) (fun w' hw' => exec_load1 9 (.tmp 17) rfl ⟨g, 1, none⟩ (by kernel_rfl) (.string ⟨sh.toArray⟩) (cell_next HC1.out hw') _ Tryz.underlying9 rfl) ?_
            refine below_call (by kernel_rfl) 51 #[.string ⟨sh.toArray⟩] (.bool true) (fun w' => by kernel_rfl) (fun w' hw' => (HW2.out w' ((HMX.out.next HB1.out).next hw')).mono fun e w1 ⟨he, hb1⟩ => ⟨he, below_step hw' hb1⟩) ?_
            refine below_run (by kernel_rfl) (.bool false) (fun w' hw' => by kernel_rfl) ?_
            refine below_run (by kernel_rfl) (.bool false) (fun w' hw' => by kernel_rfl) ?_
            refine below_run (by kernel_rfl) (.bool false) (fun w' hw' => by kernel_rfl) ?_
            refine below_run (by kernel_rfl) (.pointer (some ⟨g, 0, none⟩)) (fun w' hw' => by kernel_rfl) ?_
            refine below_run (by kernel_rfl) (.string ⟨lo.toArray⟩) (fun w' hw' => exec_load1 9 (.tmp 23) rfl ⟨g, 0, none⟩ (by kernel_rfl) (.string ⟨lo.toArray⟩) (cell_next HC0.out hw') _ Tryz.underlying9 rfl) ?_
            refine below_run (by kernel_rfl) (.int .i64 (lo.length : Nat)) (fun w' hw' => by kernel_rfl) ?_
            refine below_run (by kernel_rfl) (.bool true) (fun w' hw' => Eq.trans (show (execOp _ _).run _ w' = .ok (.value (.bool (decide ((20 : Int) < ((lo.length : Nat) : Int))))) w' by kernel_rfl) (by rw [q3])) ?_
            refine below_run (by kernel_rfl) (.bool true) (fun w' hw' => by kernel_rfl) ?_
            refine below_run (by kernel_rfl) (.bool true) (fun w' hw' => by kernel_rfl) ?_
            refine BigFrame.wpQuiet_skip (by kernel_rfl) ?_
            refine BigFrame.wpQuiet_skip (by kernel_rfl) ?_
            refine BigFrame.wpQuiet_skip (by kernel_rfl) ?_
            refine BigFrame.wpQuiet_skip (by kernel_rfl) ?_
            refine BigFrame.wpQuiet_skip (by kernel_rfl) ?_
            refine BigFrame.wpQuiet_skip (by kernel_rfl) ?_
            refine BigFrame.wpQuiet_skip (by kernel_rfl) ?_
            refine below_run (by kernel_rfl) (.bool true) (fun w' hw' => by kernel_rfl) ?_
            refine below_run (by kernel_rfl) (.bool true) (fun w' hw' => by kernel_rfl) ?_
            refine BigFrame.wpQuiet_skip (by kernel_rfl) ?_
            refine BigFrame.wpQuiet_skip (by kernel_rfl) ?_
            refine BigFrame.wpQuiet_skip (by kernel_rfl) ?_
            refine BigFrame.wpQuiet_skip (by kernel_rfl) ?_
            refine BigFrame.wpQuiet_skip (by kernel_rfl) ?_
            refine BigFrame.wpQuiet_skip (by kernel_rfl) ?_
            refine BigFrame.wpQuiet_skip (by kernel_rfl) ?_
            refine BigFrame.wpQuiet_skip (by kernel_rfl) ?_
            refine BigFrame.wpQuiet_skip (by kernel_rfl) ?_
            refine BigFrame.wpQuiet_skip (by kernel_rfl) ?_
            refine BigFrame.wpQuiet_skip (by kernel_rfl) ?_
            refine BigFrame.wpQuiet_skip (by kernel_rfl) ?_
            refine BigFrame.wpQuiet_skip (by kernel_rfl) ?_
            refine below_run (by kernel_rfl) (.bool true) (fun w' hw' => by kernel_rfl) ?_
            refine wpQuiet_nil ?_
            intro W2 hW2
            simp only [Act.put, List.setIfInBounds_toArray, List.set_cons_succ, List.set_cons_zero]
            have HB2 := Lib.hid (below_step HB1.out hW2)
            clear hW2
            clear q3 h3
            repeat (first | go_values | go_skip | go_guarded | go_step | go_upon)
            go_ret
            exact ⟨by rw [HF.out] <;> rfl, HB2.out⟩
          · have q3 := decide_eq_false h3
            by_cases h4 : ((lo.length : Nat) : Int) ≤ ((sh.length : Nat) : Int)
            · have q4 := decide_eq_true h4
              have HF := Lib.hid (HBD.out (by rw [HAT.out, decide_eq_false (show ¬ sh.length < lo.length by omega)]; simp))
              clear HBD HAT
              refine region_below (W1.heap.size) (by kernel_rfl) (by kernel_rfl) ?_
              refine below_run (by kernel_rfl) (.pointer (some ⟨g, 0, none⟩)) (fun w' hw' => by kernel_rfl) ?_
              refine below_run (by kernel_rfl) (.string ⟨lo.toArray⟩) (fun w' hw' => exec_load1 9 (.tmp 12) rfl ⟨g, 0, none⟩ (by kernel_rfl) (.string ⟨lo.toArray⟩) (cell_next HC0.out hw') _ Tryz.underlying9 rfl) ?_
              refine below_call (by kernel_rfl) 51 #[.string ⟨lo.toArray⟩] (.bool true) (fun w' => by kernel_rfl) (fun w' hw' => (HW1.out w' ((HMX.out.next HB1.out).next hw')).mono fun e w1 ⟨he, hb1⟩ => ⟨he, below_step hw' hb1⟩) ?_
              refine below_run (by kernel_rfl) (.bool false) (fun w' hw' => by kernel_rfl) ?_
              refine below_run (by kernel_rfl) (.bool false) (fun w' hw' => by kernel_rfl) ?_
              refine below_run (by kernel_rfl) (.pointer (some ⟨g, 1, none⟩)) (fun w' hw' => by kernel_rfl) ?_
              refine below_run (by kernel_rfl) (.string ⟨sh.toArray⟩) (fun w' hw' => exec_load1 9 (.tmp 17) rfl ⟨g, 1, none⟩ (by kernel_rfl) (.string ⟨sh.toArray⟩) (cell_next HC1.out hw') _ Tryz.underlying9 rfl) ?_
              refine below_call (by kernel_rfl) 51 #[.string ⟨sh.toArray⟩] (.bool true) (fun w' => by kernel_rfl) (fun w' hw' => (HW2.out w' ((HMX.out.next HB1.out).next hw')).mono fun e w1 ⟨he, hb1⟩ => ⟨he, below_step hw' hb1⟩) ?_
              refine below_run (by kernel_rfl) (.bool false) (fun w' hw' => by kernel_rfl) ?_
              refine below_run (by kernel_rfl) (.bool false) (fun w' hw' => by kernel_rfl) ?_
              refine below_run (by kernel_rfl) (.bool false) (fun w' hw' => by kernel_rfl) ?_
              refine below_run (by kernel_rfl) (.pointer (some ⟨g, 0, none⟩)) (fun w' hw' => by kernel_rfl) ?_
              refine below_run (by kernel_rfl) (.string ⟨lo.toArray⟩) (fun w' hw' => exec_load1 9 (.tmp 23) rfl ⟨g, 0, none⟩ (by kernel_rfl) (.string ⟨lo.toArray⟩) (cell_next HC0.out hw') _ Tryz.underlying9 rfl) ?_
              refine below_run (by kernel_rfl) (.int .i64 (lo.length : Nat)) (fun w' hw' => by kernel_rfl) ?_
              refine below_run (by kernel_rfl) (.bool false) (fun w' hw' => Eq.trans (show (execOp _ _).run _ w' = .ok (.value (.bool (decide ((20 : Int) < ((lo.length : Nat) : Int))))) w' by kernel_rfl) (by rw [q3])) ?_
              refine below_run (by kernel_rfl) (.bool false) (fun w' hw' => by kernel_rfl) ?_
              refine below_run (by kernel_rfl) (.bool false) (fun w' hw' => by kernel_rfl) ?_
              refine below_run (by kernel_rfl) (.pointer (some ⟨g, 1, none⟩)) (fun w' hw' => by kernel_rfl) ?_
              refine below_run (by kernel_rfl) (.string ⟨sh.toArray⟩) (fun w' hw' => exec_load1 9 (.tmp 29) rfl ⟨g, 1, none⟩ (by kernel_rfl) (.string ⟨sh.toArray⟩) (cell_next HC1.out hw') _ Tryz.underlying9 rfl) ?_
              refine below_run (by kernel_rfl) (.int .i64 (sh.length : Nat)) (fun w' hw' => by kernel_rfl) ?_
              refine below_run (by kernel_rfl) (.pointer (some ⟨g, 0, none⟩)) (fun w' hw' => by kernel_rfl) ?_
              refine below_run (by kernel_rfl) (.string ⟨lo.toArray⟩) (fun w' hw' => exec_load1 9 (.tmp 32) rfl ⟨g, 0, none⟩ (by kernel_rfl) (.string ⟨lo.toArray⟩) (cell_next HC0.out hw') _ Tryz.underlying9 rfl) ?_
              refine below_run (by kernel_rfl) (.int .i64 (lo.length : Nat)) (fun w' hw' => by kernel_rfl) ?_
              refine below_run (by kernel_rfl) (.bool true) (fun w' hw' => Eq.trans (show (execOp _ _).run _ w' = .ok (.value (.bool (decide (((lo.length : Nat) : Int) ≤ ((sh.length : Nat) : Int))))) w' by kernel_rfl) (by rw [q4])) ?_
              refine below_run (by kernel_rfl) (.bool true) (fun w' hw' => by kernel_rfl) ?_
              refine below_run (by kernel_rfl) (.bool true) (fun w' hw' => by kernel_rfl) ?_
              refine BigFrame.wpQuiet_skip (by kernel_rfl) ?_
              refine BigFrame.wpQuiet_skip (by kernel_rfl) ?_
              refine BigFrame.wpQuiet_skip (by kernel_rfl) ?_
              refine BigFrame.wpQuiet_skip (by kernel_rfl) ?_
              refine BigFrame.wpQuiet_skip (by kernel_rfl) ?_
              refine BigFrame.wpQuiet_skip (by kernel_rfl) ?_
              refine BigFrame.wpQuiet_skip (by kernel_rfl) ?_
              refine BigFrame.wpQuiet_skip (by kernel_rfl) ?_
              refine BigFrame.wpQuiet_skip (by kernel_rfl) ?_
              refine BigFrame.wpQuiet_skip (by kernel_rfl) ?_
              refine BigFrame.wpQuiet_skip (by kernel_rfl) ?_
              refine BigFrame.wpQuiet_skip (by kernel_rfl) ?_
              refine BigFrame.wpQuiet_skip (by kernel_rfl) ?_
              refine below_run (by kernel_rfl) (.bool true) (fun w' hw' => by kernel_rfl) ?_
              refine wpQuiet_nil ?_
              intro W2 hW2
              simp only [Act.put, List.setIfInBounds_toArray, List.set_cons_succ, List.set_cons_zero]
              have HB2 := Lib.hid (below_step HB1.out hW2)
              clear hW2
              clear q3 h3 q4 h4
              repeat (first | go_values | go_skip | go_guarded | go_step | go_upon)
              go_ret
              exact ⟨by rw [HF.out] <;> rfl, HB2.out⟩
            · have q4 := decide_eq_false h4
              have HAT2 := Lib.hid (show srAt ps k = (decide (k = 0) || Op.bytesLess (rdSr ps (k - 1)).lo lo) by rw [HAT.out, vWord_W HV1.out, vWord_W HV2.out, decide_eq_true (show lo.length ≤ 20 by omega), decide_eq_true (show sh.length < lo.length by omega)]; rfl)
              clear HAT
              by_cases hk0 : k = 0
              · have q5 : decide ((0 : Int) < (k : Int)) = false := decide_eq_false (by omega)
                have HK0 := Lib.hid hk0
                clear hk0
                refine region_below (W1.heap.size) (by kernel_rfl) (by kernel_rfl) ?_
                refine below_run (by kernel_rfl) (.pointer (some ⟨g, 0, none⟩)) (fun w' hw' => by kernel_rfl) ?_
                refine below_run (by kernel_rfl) (.string ⟨lo.toArray⟩) (fun w' hw' => exec_load1 9 (.tmp 12) rfl ⟨g, 0, none⟩ (by kernel_rfl) (.string ⟨lo.toArray⟩) (cell_next HC0.out hw') _ Tryz.underlying9 rfl) ?_
                refine below_call (by kernel_rfl) 51 #[.string ⟨lo.toArray⟩] (.bool true) (fun w' => by kernel_rfl) (fun w' hw' => (HW1.out w' ((HMX.out.next HB1.out).next hw')).mono fun e w1 ⟨he, hb1⟩ => ⟨he, below_step hw' hb1⟩) ?_
                refine below_run (by kernel_rfl) (.bool false) (fun w' hw' => by kernel_rfl) ?_
                refine below_run (by kernel_rfl) (.bool false) (fun w' hw' => by kernel_rfl) ?_
                refine below_run (by kernel_rfl) (.pointer (some ⟨g, 1, none⟩)) (fun w' hw' => by kernel_rfl) ?_
                refine below_run (by kernel_rfl) (.string ⟨sh.toArray⟩) (fun w' hw' => exec_load1 9 (.tmp 17) rfl ⟨g, 1, none⟩ (by kernel_rfl) (.string ⟨sh.toArray⟩) (cell_next HC1.out hw') _ Tryz.underlying9 rfl) ?_
                refine below_call (by kernel_rfl) 51 #[.string ⟨sh.toArray⟩] (.bool true) (fun w' => by kernel_rfl) (fun w' hw' => (HW2.out w' ((HMX.out.next HB1.out).next hw')).mono fun e w1 ⟨he, hb1⟩ => ⟨he, below_step hw' hb1⟩) ?_
                refine below_run (by kernel_rfl) (.bool false) (fun w' hw' => by kernel_rfl) ?_
                refine below_run (by kernel_rfl) (.bool false) (fun w' hw' => by kernel_rfl) ?_
                refine below_run (by kernel_rfl) (.bool false) (fun w' hw' => by kernel_rfl) ?_
                refine below_run (by kernel_rfl) (.pointer (some ⟨g, 0, none⟩)) (fun w' hw' => by kernel_rfl) ?_
                refine below_run (by kernel_rfl) (.string ⟨lo.toArray⟩) (fun w' hw' => exec_load1 9 (.tmp 23) rfl ⟨g, 0, none⟩ (by kernel_rfl) (.string ⟨lo.toArray⟩) (cell_next HC0.out hw') _ Tryz.underlying9 rfl) ?_
                refine below_run (by kernel_rfl) (.int .i64 (lo.length : Nat)) (fun w' hw' => by kernel_rfl) ?_
                refine below_run (by kernel_rfl) (.bool false) (fun w' hw' => Eq.trans (show (execOp _ _).run _ w' = .ok (.value (.bool (decide ((20 : Int) < ((lo.length : Nat) : Int))))) w' by kernel_rfl) (by rw [q3])) ?_
                refine below_run (by kernel_rfl) (.bool false) (fun w' hw' => by kernel_rfl) ?_
                refine below_run (by kernel_rfl) (.bool false) (fun w' hw' => by kernel_rfl) ?_
                refine below_run (by kernel_rfl) (.pointer (some ⟨g, 1, none⟩)) (fun w' hw' => by kernel_rfl) ?_
                refine below_run (by kernel_rfl) (.string ⟨sh.toArray⟩) (fun w' hw' => exec_load1 9 (.tmp 29) rfl ⟨g, 1, none⟩ (by kernel_rfl) (.string ⟨sh.toArray⟩) (cell_next HC1.out hw') _ Tryz.underlying9 rfl) ?_
                refine below_run (by kernel_rfl) (.int .i64 (sh.length : Nat)) (fun w' hw' => by kernel_rfl) ?_
                refine below_run (by kernel_rfl) (.pointer (some ⟨g, 0, none⟩)) (fun w' hw' => by kernel_rfl) ?_
                refine below_run (by kernel_rfl) (.string ⟨lo.toArray⟩) (fun w' hw' => exec_load1 9 (.tmp 32) rfl ⟨g, 0, none⟩ (by kernel_rfl) (.string ⟨lo.toArray⟩) (cell_next HC0.out hw') _ Tryz.underlying9 rfl) ?_
                refine below_run (by kernel_rfl) (.int .i64 (lo.length : Nat)) (fun w' hw' => by kernel_rfl) ?_
                refine below_run (by kernel_rfl) (.bool false) (fun w' hw' => Eq.trans (show (execOp _ _).run _ w' = .ok (.value (.bool (decide (((lo.length : Nat) : Int) ≤ ((sh.length : Nat) : Int))))) w' by kernel_rfl) (by rw [q4])) ?_
                refine below_run (by kernel_rfl) (.bool false) (fun w' hw' => by kernel_rfl) ?_
                refine below_run (by kernel_rfl) (.bool false) (fun w' hw' => by kernel_rfl) ?_
                refine below_run (by kernel_rfl) (.int .i64 (k : Nat)) (fun w' hw' => by kernel_rfl) ?_
                refine below_run (by kernel_rfl) (.bool false) (fun w' hw' => Eq.trans (show (execOp _ _).run _ w' = .ok (.value (.bool (decide ((0 : Int) < (k : Int))))) w' by kernel_rfl) (by rw [q5])) ?_
                refine below_run (by kernel_rfl) (.bool false) (fun w' hw' => by kernel_rfl) ?_
                refine BigFrame.wpQuiet_skip (by kernel_rfl) ?_
                refine BigFrame.wpQuiet_skip (by kernel_rfl) ?_
                refine BigFrame.wpQuiet_skip (by kernel_rfl) ?_
                refine BigFrame.wpQuiet_skip (by kernel_rfl) ?_
                refine BigFrame.wpQuiet_skip (by kernel_rfl) ?_
                refine BigFrame.wpQuiet_skip (by kernel_rfl) ?_
                refine BigFrame.wpQuiet_skip (by kernel_rfl) ?_
                refine BigFrame.wpQuiet_skip (by kernel_rfl) ?_
                refine BigFrame.wpQuiet_skip (by kernel_rfl) ?_
                refine below_run (by kernel_rfl) (.bool false) (fun w' hw' => by kernel_rfl) ?_
                refine below_run (by kernel_rfl) (.bool false) (fun w' hw' => by kernel_rfl) ?_
                refine wpQuiet_nil ?_
                intro W2 hW2
                simp only [Act.put, List.setIfInBounds_toArray, List.set_cons_succ, List.set_cons_zero]
                have HB2 := Lib.hid (below_step HB1.out hW2)
                clear hW2
                clear q3 h3 q4 h4 q5
                repeat (first | go_values | go_skip | go_guarded | go_step | go_upon)
                go_roundw
                case rel => exact ⟨k + 1, hlt, by go_num, srN_succ HS.out (by rw [HAT2.out, decide_eq_true HK0.out]; rfl), HB2.out⟩
                case measure => simp [intOf]; omega
              · have q5 : decide ((0 : Int) < (k : Int)) = true := decide_eq_true (by omega)
                have e1 : IntKind.i64.wrap ((k : Int) - 1) = ((k - 1 : Nat) : Int) := by rw [IntWalk.i64_in _ (by omega)]; omega
                have hkp : k - 1 < n := by omega
                obtain ⟨p2, hp2, hrow2⟩ := HA.out.get (k - 1) (by rw [HN.out]; exact hkp)
                obtain rfl : p = p2 := by injection hp2
                have HR2 := Lib.hid hrow2
                obtain ⟨pv, hpv⟩ : ∃ pv, pv = (rdSr ps (k - 1)).lo := ⟨_, rfl⟩
                have HPV := Lib.hid hpv
                clear hrow2 hp2 hpv
                cases hbl : Op.bytesLess pv lo
                · skip
                  refine region_below (W1.heap.size) (by kernel_rfl) (by kernel_rfl) ?_
                  refine below_run (by kernel_rfl) (.pointer (some ⟨g, 0, none⟩)) (fun w' hw' => by kernel_rfl) ?_
                  refine below_run (by kernel_rfl) (.string ⟨lo.toArray⟩) (fun w' hw' => exec_load1 9 (.tmp 12) rfl ⟨g, 0, none⟩ (by kernel_rfl) (.string ⟨lo.toArray⟩) (cell_next HC0.out hw') _ Tryz.underlying9 rfl) ?_
                  refine below_call (by kernel_rfl) 51 #[.string ⟨lo.toArray⟩] (.bool true) (fun w' => by kernel_rfl) (fun w' hw' => (HW1.out w' ((HMX.out.next HB1.out).next hw')).mono fun e w1 ⟨he, hb1⟩ => ⟨he, below_step hw' hb1⟩) ?_
                  refine below_run (by kernel_rfl) (.bool false) (fun w' hw' => by kernel_rfl) ?_
                  refine below_run (by kernel_rfl) (.bool false) (fun w' hw' => by kernel_rfl) ?_
                  refine below_run (by kernel_rfl) (.pointer (some ⟨g, 1, none⟩)) (fun w' hw' => by kernel_rfl) ?_
                  refine below_run (by kernel_rfl) (.string ⟨sh.toArray⟩) (fun w' hw' => exec_load1 9 (.tmp 17) rfl ⟨g, 1, none⟩ (by kernel_rfl) (.string ⟨sh.toArray⟩) (cell_next HC1.out hw') _ Tryz.underlying9 rfl) ?_
                  refine below_call (by kernel_rfl) 51 #[.string ⟨sh.toArray⟩] (.bool true) (fun w' => by kernel_rfl) (fun w' hw' => (HW2.out w' ((HMX.out.next HB1.out).next hw')).mono fun e w1 ⟨he, hb1⟩ => ⟨he, below_step hw' hb1⟩) ?_
                  refine below_run (by kernel_rfl) (.bool false) (fun w' hw' => by kernel_rfl) ?_
                  refine below_run (by kernel_rfl) (.bool false) (fun w' hw' => by kernel_rfl) ?_
                  refine below_run (by kernel_rfl) (.bool false) (fun w' hw' => by kernel_rfl) ?_
                  refine below_run (by kernel_rfl) (.pointer (some ⟨g, 0, none⟩)) (fun w' hw' => by kernel_rfl) ?_
                  refine below_run (by kernel_rfl) (.string ⟨lo.toArray⟩) (fun w' hw' => exec_load1 9 (.tmp 23) rfl ⟨g, 0, none⟩ (by kernel_rfl) (.string ⟨lo.toArray⟩) (cell_next HC0.out hw') _ Tryz.underlying9 rfl) ?_
                  refine below_run (by kernel_rfl) (.int .i64 (lo.length : Nat)) (fun w' hw' => by kernel_rfl) ?_
                  refine below_run (by kernel_rfl) (.bool false) (fun w' hw' => Eq.trans (show (execOp _ _).run _ w' = .ok (.value (.bool (decide ((20 : Int) < ((lo.length : Nat) : Int))))) w' by kernel_rfl) (by rw [q3])) ?_
                  refine below_run (by kernel_rfl) (.bool false) (fun w' hw' => by kernel_rfl) ?_
                  refine below_run (by kernel_rfl) (.bool false) (fun w' hw' => by kernel_rfl) ?_
                  refine below_run (by kernel_rfl) (.pointer (some ⟨g, 1, none⟩)) (fun w' hw' => by kernel_rfl) ?_
                  refine below_run (by kernel_rfl) (.string ⟨sh.toArray⟩) (fun w' hw' => exec_load1 9 (.tmp 29) rfl ⟨g, 1, none⟩ (by kernel_rfl) (.string ⟨sh.toArray⟩) (cell_next HC1.out hw') _ Tryz.underlying9 rfl) ?_
                  refine below_run (by kernel_rfl) (.int .i64 (sh.length : Nat)) (fun w' hw' => by kernel_rfl) ?_
                  refine below_run (by kernel_rfl) (.pointer (some ⟨g, 0, none⟩)) (fun w' hw' => by kernel_rfl) ?_
                  refine below_run (by kernel_rfl) (.string ⟨lo.toArray⟩) (fun w' hw' => exec_load1 9 (.tmp 32) rfl ⟨g, 0, none⟩ (by kernel_rfl) (.string ⟨lo.toArray⟩) (cell_next HC0.out hw') _ Tryz.underlying9 rfl) ?_
                  refine below_run (by kernel_rfl) (.int .i64 (lo.length : Nat)) (fun w' hw' => by kernel_rfl) ?_
                  refine below_run (by kernel_rfl) (.bool false) (fun w' hw' => Eq.trans (show (execOp _ _).run _ w' = .ok (.value (.bool (decide (((lo.length : Nat) : Int) ≤ ((sh.length : Nat) : Int))))) w' by kernel_rfl) (by rw [q4])) ?_
                  refine below_run (by kernel_rfl) (.bool false) (fun w' hw' => by kernel_rfl) ?_
                  refine below_run (by kernel_rfl) (.bool false) (fun w' hw' => by kernel_rfl) ?_
                  refine below_run (by kernel_rfl) (.int .i64 (k : Nat)) (fun w' hw' => by kernel_rfl) ?_
                  refine below_run (by kernel_rfl) (.bool true) (fun w' hw' => Eq.trans (show (execOp _ _).run _ w' = .ok (.value (.bool (decide ((0 : Int) < (k : Int))))) w' by kernel_rfl) (by rw [q5])) ?_
                  refine below_run (by kernel_rfl) (.bool true) (fun w' hw' => by kernel_rfl) ?_
                  refine below_run (by kernel_rfl) (.pointer (some ⟨g, 0, none⟩)) (fun w' hw' => by kernel_rfl) ?_
                  refine below_run (by kernel_rfl) (.string ⟨lo.toArray⟩) (fun w' hw' => exec_load1 9 (.tmp 41) rfl ⟨g, 0, none⟩ (by kernel_rfl) (.string ⟨lo.toArray⟩) (cell_next HC0.out hw') _ Tryz.underlying9 rfl) ?_
                  refine below_run (by kernel_rfl) (.slice (some p) n c) (fun w' hw' => by kernel_rfl) ?_
                  refine below_run (by kernel_rfl) (.int .i64 (k : Nat)) (fun w' hw' => by kernel_rfl) ?_
                  refine below_run (by kernel_rfl) (.int .i64 ((k - 1 : Nat) : Int)) (fun w' hw' => Eq.trans (show (execOp _ _).run _ w' = .ok (.value (.int .i64 (IntKind.i64.wrap ((k : Int) - 1)))) w' by kernel_rfl) (by rw [e1])) ?_
                  refine below_run (by kernel_rfl) (.pointer (some (Addr.add p ((k - 1) * 2)))) (fun w' hw' => exec_index 37 (.tmp 43) (.tmp 45) rfl p n c (by kernel_rfl) .i64 (k - 1) (by kernel_rfl) hkp 62 Tryz.underlying37 2 szSrI) ?_
                  refine below_run (by kernel_rfl) (.pointer (some (p.add ((k - 1) * 2)))) (fun w' hw' => by kernel_rfl) ?_
                  refine below_run (by kernel_rfl) (.string ⟨pv.toArray⟩) (fun w' hw' => exec_load1 9 (.tmp 47) rfl (p.add ((k - 1) * 2)) (by kernel_rfl) (.string ⟨pv.toArray⟩) (by rw [HPV.out]; have := ((HR2.out.next hw') 0 _ rfl); rwa [addr_zero] at this) _ Tryz.underlying9 rfl) ?_
                  refine below_run (by kernel_rfl) (.bool true) (fun w' hw' => exec_str_leq (.tmp 42) (.tmp 48) rfl lo pv (by kernel_rfl) (by kernel_rfl) (by rw [hbl]; rfl)) ?_
                  refine below_run (by kernel_rfl) (.bool true) (fun w' hw' => by kernel_rfl) ?_
                  refine below_run (by kernel_rfl) (.bool true) (fun w' hw' => by kernel_rfl) ?_
                  refine wpQuiet_nil ?_
                  intro W2 hW2
                  simp only [Act.put, List.setIfInBounds_toArray, List.set_cons_succ, List.set_cons_zero]
                  have HB2 := Lib.hid (below_step HB1.out hW2)
                  clear hW2
                  have HBL := Lib.hid hbl
                  clear hbl q3 h3 q4 h4 q5 e1
                  have HF := Lib.hid (HBD.out (by rw [HAT2.out, decide_eq_false hk0, ← HPV.out, HBL.out]; rfl))
                  repeat (first | go_values | go_skip | go_guarded | go_step | go_upon)
                  go_ret
                  exact ⟨by rw [HF.out] <;> rfl, HB2.out⟩
                · skip
                  refine region_below (W1.heap.size) (by kernel_rfl) (by kernel_rfl) ?_
                  refine below_run (by kernel_rfl) (.pointer (some ⟨g, 0, none⟩)) (fun w' hw' => by kernel_rfl) ?_
                  refine below_run (by kernel_rfl) (.string ⟨lo.toArray⟩) (fun w' hw' => exec_load1 9 (.tmp 12) rfl ⟨g, 0, none⟩ (by kernel_rfl) (.string ⟨lo.toArray⟩) (cell_next HC0.out hw') _ Tryz.underlying9 rfl) ?_
                  refine below_call (by kernel_rfl) 51 #[.string ⟨lo.toArray⟩] (.bool true) (fun w' => by kernel_rfl) (fun w' hw' => (HW1.out w' ((HMX.out.next HB1.out).next hw')).mono fun e w1 ⟨he, hb1⟩ => ⟨he, below_step hw' hb1⟩) ?_
                  refine below_run (by kernel_rfl) (.bool false) (fun w' hw' => by kernel_rfl) ?_
                  refine below_run (by kernel_rfl) (.bool false) (fun w' hw' => by kernel_rfl) ?_
                  refine below_run (by kernel_rfl) (.pointer (some ⟨g, 1, none⟩)) (fun w' hw' => by kernel_rfl) ?_
                  refine below_run (by kernel_rfl) (.string ⟨sh.toArray⟩) (fun w' hw' => exec_load1 9 (.tmp 17) rfl ⟨g, 1, none⟩ (by kernel_rfl) (.string ⟨sh.toArray⟩) (cell_next HC1.out hw') _ Tryz.underlying9 rfl) ?_
                  refine below_call (by kernel_rfl) 51 #[.string ⟨sh.toArray⟩] (.bool true) (fun w' => by kernel_rfl) (fun w' hw' => (HW2.out w' ((HMX.out.next HB1.out).next hw')).mono fun e w1 ⟨he, hb1⟩ => ⟨he, below_step hw' hb1⟩) ?_
                  refine below_run (by kernel_rfl) (.bool false) (fun w' hw' => by kernel_rfl) ?_
                  refine below_run (by kernel_rfl) (.bool false) (fun w' hw' => by kernel_rfl) ?_
                  refine below_run (by kernel_rfl) (.bool false) (fun w' hw' => by kernel_rfl) ?_
                  refine below_run (by kernel_rfl) (.pointer (some ⟨g, 0, none⟩)) (fun w' hw' => by kernel_rfl) ?_
                  refine below_run (by kernel_rfl) (.string ⟨lo.toArray⟩) (fun w' hw' => exec_load1 9 (.tmp 23) rfl ⟨g, 0, none⟩ (by kernel_rfl) (.string ⟨lo.toArray⟩) (cell_next HC0.out hw') _ Tryz.underlying9 rfl) ?_
                  refine below_run (by kernel_rfl) (.int .i64 (lo.length : Nat)) (fun w' hw' => by kernel_rfl) ?_
                  refine below_run (by kernel_rfl) (.bool false) (fun w' hw' => Eq.trans (show (execOp _ _).run _ w' = .ok (.value (.bool (decide ((20 : Int) < ((lo.length : Nat) : Int))))) w' by kernel_rfl) (by rw [q3])) ?_
                  refine below_run (by kernel_rfl) (.bool false) (fun w' hw' => by kernel_rfl) ?_
                  refine below_run (by kernel_rfl) (.bool false) (fun w' hw' => by kernel_rfl) ?_
                  refine below_run (by kernel_rfl) (.pointer (some ⟨g, 1, none⟩)) (fun w' hw' => by kernel_rfl) ?_
                  refine below_run (by kernel_rfl) (.string ⟨sh.toArray⟩) (fun w' hw' => exec_load1 9 (.tmp 29) rfl ⟨g, 1, none⟩ (by kernel_rfl) (.string ⟨sh.toArray⟩) (cell_next HC1.out hw') _ Tryz.underlying9 rfl) ?_
                  refine below_run (by kernel_rfl) (.int .i64 (sh.length : Nat)) (fun w' hw' => by kernel_rfl) ?_
                  refine below_run (by kernel_rfl) (.pointer (some ⟨g, 0, none⟩)) (fun w' hw' => by kernel_rfl) ?_
                  refine below_run (by kernel_rfl) (.string ⟨lo.toArray⟩) (fun w' hw' => exec_load1 9 (.tmp 32) rfl ⟨g, 0, none⟩ (by kernel_rfl) (.string ⟨lo.toArray⟩) (cell_next HC0.out hw') _ Tryz.underlying9 rfl) ?_
                  refine below_run (by kernel_rfl) (.int .i64 (lo.length : Nat)) (fun w' hw' => by kernel_rfl) ?_
                  refine below_run (by kernel_rfl) (.bool false) (fun w' hw' => Eq.trans (show (execOp _ _).run _ w' = .ok (.value (.bool (decide (((lo.length : Nat) : Int) ≤ ((sh.length : Nat) : Int))))) w' by kernel_rfl) (by rw [q4])) ?_
                  refine below_run (by kernel_rfl) (.bool false) (fun w' hw' => by kernel_rfl) ?_
                  refine below_run (by kernel_rfl) (.bool false) (fun w' hw' => by kernel_rfl) ?_
                  refine below_run (by kernel_rfl) (.int .i64 (k : Nat)) (fun w' hw' => by kernel_rfl) ?_
                  refine below_run (by kernel_rfl) (.bool true) (fun w' hw' => Eq.trans (show (execOp _ _).run _ w' = .ok (.value (.bool (decide ((0 : Int) < (k : Int))))) w' by kernel_rfl) (by rw [q5])) ?_
                  refine below_run (by kernel_rfl) (.bool true) (fun w' hw' => by kernel_rfl) ?_
                  refine below_run (by kernel_rfl) (.pointer (some ⟨g, 0, none⟩)) (fun w' hw' => by kernel_rfl) ?_
                  refine below_run (by kernel_rfl) (.string ⟨lo.toArray⟩) (fun w' hw' => exec_load1 9 (.tmp 41) rfl ⟨g, 0, none⟩ (by kernel_rfl) (.string ⟨lo.toArray⟩) (cell_next HC0.out hw') _ Tryz.underlying9 rfl) ?_
                  refine below_run (by kernel_rfl) (.slice (some p) n c) (fun w' hw' => by kernel_rfl) ?_
                  refine below_run (by kernel_rfl) (.int .i64 (k : Nat)) (fun w' hw' => by kernel_rfl) ?_
                  refine below_run (by kernel_rfl) (.int .i64 ((k - 1 : Nat) : Int)) (fun w' hw' => Eq.trans (show (execOp _ _).run _ w' = .ok (.value (.int .i64 (IntKind.i64.wrap ((k : Int) - 1)))) w' by kernel_rfl) (by rw [e1])) ?_
                  refine below_run (by kernel_rfl) (.pointer (some (Addr.add p ((k - 1) * 2)))) (fun w' hw' => exec_index 37 (.tmp 43) (.tmp 45) rfl p n c (by kernel_rfl) .i64 (k - 1) (by kernel_rfl) hkp 62 Tryz.underlying37 2 szSrI) ?_
                  refine below_run (by kernel_rfl) (.pointer (some (p.add ((k - 1) * 2)))) (fun w' hw' => by kernel_rfl) ?_
                  refine below_run (by kernel_rfl) (.string ⟨pv.toArray⟩) (fun w' hw' => exec_load1 9 (.tmp 47) rfl (p.add ((k - 1) * 2)) (by kernel_rfl) (.string ⟨pv.toArray⟩) (by rw [HPV.out]; have := ((HR2.out.next hw') 0 _ rfl); rwa [addr_zero] at this) _ Tryz.underlying9 rfl) ?_
                  refine below_run (by kernel_rfl) (.bool false) (fun w' hw' => exec_str_leq (.tmp 42) (.tmp 48) rfl lo pv (by kernel_rfl) (by kernel_rfl) (by rw [hbl]; rfl)) ?_
                  refine below_run (by kernel_rfl) (.bool false) (fun w' hw' => by kernel_rfl) ?_
                  refine below_run (by kernel_rfl) (.bool false) (fun w' hw' => by kernel_rfl) ?_
                  refine wpQuiet_nil ?_
                  intro W2 hW2
                  simp only [Act.put, List.setIfInBounds_toArray, List.set_cons_succ, List.set_cons_zero]
                  have HB2 := Lib.hid (below_step HB1.out hW2)
                  clear hW2
                  have HBL := Lib.hid hbl
                  clear hbl q3 h3 q4 h4 q5 e1
                  repeat (first | go_values | go_skip | go_guarded | go_step | go_upon)
                  go_roundw
                  case rel => exact ⟨k + 1, hlt, by go_num, srN_succ HS.out (by rw [HAT2.out, ← HPV.out, HBL.out]; simp), HB2.out⟩
                  case measure => simp [intOf]; omega
    · obtain rfl : k = n := by omega
      have HO := Lib.hid (srOk_len (ps := ps) (by rw [HN.out]; exact HS.out))
      by_cases h6 : (k : Int) ≤ 6
      · have HO2 := Lib.hid (HO.out.trans (decide_eq_true (by rw [HN.out]; omega)))
        repeat (first | go_values | go_skip | go_guarded | go_step | go_upon)
        go_ret
        exact ⟨by rw [HO2.out] <;> rfl, hbel⟩
      · have HO2 := Lib.hid (HO.out.trans (decide_eq_false (by rw [HN.out]; omega)))
        repeat (first | go_values | go_skip | go_guarded | go_step | go_upon)
        go_ret
        exact ⟨by rw [HO2.out] <;> rfl, hbel⟩
end Go.Proofs.YtnlnjpdnhdmndaaGreatDoor
