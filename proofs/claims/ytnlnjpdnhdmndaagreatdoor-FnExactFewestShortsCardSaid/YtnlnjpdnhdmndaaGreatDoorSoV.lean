/- Contracts: whether shorts are valid, by the reference. -/
import Derived.Test.YtnlnjpdnhdmndaaGreatDoorSoS

namespace Go.Proofs.YtnlnjpdnhdmndaaGreatDoor
open Go Go.RowKit
set_option linter.unusedVariables false
set_option linter.unusedSimpArgs false

theorem addr_zero (a : Addr) : a.add 0 = a := by simp [Addr.add]
theorem cell_next {w w' : World} {g i : Nat} {v : Value} (h : w.cell? ⟨g, i, none⟩ = some v) (hb : Below w.heap.size w w') : w'.cell? ⟨g, i, none⟩ = some v := by
  have hr : RowV w ⟨g, i, none⟩ [v] := fun j u hu => by
    cases j with
    | zero => rw [addr_zero]; simp at hu; subst hu; exact h
    | succ j => simp at hu
  have := (hr.next hb) 0 v rfl
  rwa [addr_zero] at this
theorem exec_str_geq {op : Oper} {a : Act} {w : World} (x y : Operand) (ho : op.op = .binOp .geq 9 x y 9) (l m : List UInt8) (hx : a.eval x = .string ⟨l.toArray⟩) (hy : a.eval y = .string ⟨m.toArray⟩) {b : Bool} (hb : (!Op.bytesLess l m) = b) :
    (execOp a.eval op).run Tryz.prog w = .ok (.value (.bool b)) w := by
  unfold execOp
  simp only [ho, hx, hy]
  go_simp
attribute [local irreducible] wpQuiet in
set_option maxHeartbeats 4000000 in
set_option maxRecDepth 100000 in
theorem shorts_spec (A : Option Addr) (c : Nat) (ps : List Sr) (n : Nat) (w : World) (hn : ps.length = n) (hm : n ≤ 1048576) (hb : SrB ps 1048576) (h : SlR w A ps) :
    Calls Tryz.prog 43 #[.slice A n c] w fun e w' => e = .returned (.bool (srOk ps)) ∧ Below w.heap.size w w' := by
  have HN := Lib.hid hn
  have H := Lib.hid h
  have HB := Lib.hid hb
  clear hn h hb
  go_enter Tryz.func43, Tryz.ntmps43
  repeat ((with_reducible fail_if_success (show Code.wp _ (Code.loop _) _ _ _)); first | go_values | go_skip | go_guarded | go_step | go_upon)
  go_loopw [3] (fun i wr => ∃ k : Nat, k ≤ n ∧ i = .int .i64 k ∧ SrN ps k ∧ Below w.heap.size w wr) (fun i _ => n - (intOf i).toNat)
  case atStart => exact ⟨0, by omega, rfl, srN_zero _, Below.refl _ _⟩
  case round =>
    obtain ⟨k, hk, rfl, hs, hbel⟩ := hrel
    have HS := Lib.hid hs
    clear hs
    by_cases hlt : k < n
    · obtain ⟨p, hpp, hrow⟩ := (H.out.next hbel).get k (by rw [HN.out]; exact hlt)
      obtain ⟨z1, z2⟩ := HB.out k (by rw [HN.out]; exact hlt)
      have HA := Lib.hid (H.out.next hbel)
      have HB1 := Lib.hid (below_step hbel (below_one wr (.cells (srV (rdSr ps k)).toArray 62)))
      have HA := Lib.hid (HA.out.next (below_one wr (.cells (srV (rdSr ps k)).toArray 62)))
      have hk2 := Blk.new wr 62 (srV (rdSr ps k))
      have HAT := Lib.hid (show srAt ps k = (isW (rdSr ps k).lo && isW (rdSr ps k).sh && decide ((rdSr ps k).lo.length ≤ 20) && decide ((rdSr ps k).sh.length < (rdSr ps k).lo.length) && (decide (k = 0) || Op.bytesLess (rdSr ps (k - 1)).lo (rdSr ps k).lo)) from rfl)
      have HBD := Lib.hid (fun (g : srAt ps k = false) => srOk_bad (ps := ps) (by rw [HN.out]; exact hlt) g)
      clear hbel
      subst hpp
      repeat ((with_reducible fail_if_success (show wpList _ _ _ (⟨some 14, _, _, _, _, _⟩ :: _) _ _)); first | go_values | go_skip | go_guarded | go_step | go_upon)
      refine wpList_loadV rfl 62 (.tmp 13) rfl (p.add (k * 2)) rfl (srV (rdSr ps k)) _ hrow Tryz.underlying62 rfl szSrI ?_
      clear hrow
      repeat ((with_reducible fail_if_success (show wpList _ _ _ (⟨none, .store 62 (.tmp 4) (.tmp 14), _, _, _, _⟩ :: _) _ _)); first | go_values | go_skip | go_guarded | go_step | go_upon)
      refine wpList_store_new rfl 62 (.tmp 4) (.tmp 14) rfl (srV (rdSr ps k)).toArray rfl rfl 62 _ szSrI rfl (one_sr _) ?_
      obtain ⟨lo, hlo⟩ : ∃ lo, lo = (rdSr ps k).lo := ⟨_, rfl⟩
      obtain ⟨sh, hsh⟩ : ∃ sh, sh = (rdSr ps k).sh := ⟨_, rfl⟩
      have c0 : (wr.alloc (.cells (srV (rdSr ps k)).toArray 62)).cell? ⟨wr.heap.size, 0, none⟩ = some (.string ⟨lo.toArray⟩) := by rw [hlo]; exact hk2.cell 0 _ rfl
      have c1 : (wr.alloc (.cells (srV (rdSr ps k)).toArray 62)).cell? ⟨wr.heap.size, 1, none⟩ = some (.string ⟨sh.toArray⟩) := by rw [hsh]; exact hk2.cell 1 _ rfl
      clear hk2
      generalize wr.alloc (.cells (srV (rdSr ps k)).toArray 62) = W1 at *
      generalize wr.heap.size = g at *
      rw [← hlo] at z1 HAT
      rw [← hsh] at z2 HAT
      have HLO := Lib.hid hlo
      clear hsh hlo
      cases h1 : isW lo
      · skip
        go_wp2_with fail
        go_at_call 60
        refine (word_spec ⟨lo.toArray⟩ _ (szL z1)).mono ?_
        rintro e _ ⟨he, rfl⟩
        rw [show isW (bs ⟨lo.toArray⟩) = false from h1] at he
        subst he
        dsimp only
        have HF := Lib.hid (HBD.out (by rw [HAT.out, h1]; simp [h1]))
        clear HBD HAT
        go_wp2
        go_ret
        exact ⟨by rw [HF.out] <;> rfl, HB1.out⟩
      · cases h2 : isW sh
        · skip
          go_wp2_with fail
          go_at_call 60
          refine (word_spec ⟨lo.toArray⟩ _ (szL z1)).mono ?_
          rintro e _ ⟨he, rfl⟩
          rw [show isW (bs ⟨lo.toArray⟩) = true from h1] at he
          subst he
          dsimp only
          go_wp2_with fail
          go_at_call 60
          refine (word_spec ⟨sh.toArray⟩ _ (szL z2)).mono ?_
          rintro e _ ⟨he, rfl⟩
          rw [show isW (bs ⟨sh.toArray⟩) = false from h2] at he
          subst he
          dsimp only
          have HF := Lib.hid (HBD.out (by rw [HAT.out, h1, h2]; simp [h1]))
          clear HBD HAT
          go_wp2
          go_ret
          exact ⟨by rw [HF.out] <;> rfl, HB1.out⟩
        · by_cases h3 : (20 : Int) < (lo.length : Int)
          · skip
            go_wp2_with fail
            go_at_call 60
            refine (word_spec ⟨lo.toArray⟩ _ (szL z1)).mono ?_
            rintro e _ ⟨he, rfl⟩
            rw [show isW (bs ⟨lo.toArray⟩) = true from h1] at he
            subst he
            dsimp only
            go_wp2_with fail
            go_at_call 60
            refine (word_spec ⟨sh.toArray⟩ _ (szL z2)).mono ?_
            rintro e _ ⟨he, rfl⟩
            rw [show isW (bs ⟨sh.toArray⟩) = true from h2] at he
            subst he
            dsimp only
            have HF := Lib.hid (HBD.out (by rw [HAT.out, h1, h2, decide_eq_false (show ¬ lo.length ≤ 20 by omega)]; simp [h1]))
            clear HBD HAT
            go_wp2
            go_ret
            exact ⟨by rw [HF.out] <;> rfl, HB1.out⟩
          · by_cases h4 : (lo.length : Int) ≤ (sh.length : Int)
            · skip
              go_wp2_with fail
              go_at_call 60
              refine (word_spec ⟨lo.toArray⟩ _ (szL z1)).mono ?_
              rintro e _ ⟨he, rfl⟩
              rw [show isW (bs ⟨lo.toArray⟩) = true from h1] at he
              subst he
              dsimp only
              go_wp2_with fail
              go_at_call 60
              refine (word_spec ⟨sh.toArray⟩ _ (szL z2)).mono ?_
              rintro e _ ⟨he, rfl⟩
              rw [show isW (bs ⟨sh.toArray⟩) = true from h2] at he
              subst he
              dsimp only
              have HF := Lib.hid (HBD.out (by rw [HAT.out, h1, h2, decide_eq_true (show lo.length ≤ 20 by omega), decide_eq_false (show ¬ sh.length < lo.length by omega)]; simp [h1]))
              clear HBD HAT
              go_wp2
              go_ret
              exact ⟨by rw [HF.out] <;> rfl, HB1.out⟩
            · have HAT2 := Lib.hid (show srAt ps k = (decide (k = 0) || Op.bytesLess (rdSr ps (k - 1)).lo lo) by rw [HAT.out, h1, h2, decide_eq_true (show lo.length ≤ 20 by omega), decide_eq_true (show sh.length < lo.length by omega)]; rfl)
              have H1 := Lib.hid h1
              have H2 := Lib.hid h2
              clear h1 h2
              go_wp2_with fail
              go_at_call 60
              refine (word_spec ⟨lo.toArray⟩ _ (szL z1)).mono ?_
              rintro e _ ⟨he, rfl⟩
              rw [show isW (bs ⟨lo.toArray⟩) = true from H1.out] at he
              subst he
              dsimp only
              go_wp2_with fail
              go_at_call 60
              refine (word_spec ⟨sh.toArray⟩ _ (szL z2)).mono ?_
              rintro e _ ⟨he, rfl⟩
              rw [show isW (bs ⟨sh.toArray⟩) = true from H2.out] at he
              subst he
              dsimp only
              repeat ((with_reducible fail_if_success (show Code.wp _ (Code.region 7 _ _) _ _ _)); first | go_values | go_skip | go_guarded | go_step | go_upon)
              have HC0 := Lib.hid c0
              clear c0 c1 h3 h4
              by_cases hk0 : k = 0
              · have q1 : decide ((0 : Int) < (k : Int)) = false := decide_eq_false (by omega)
                have HK0 := Lib.hid hk0
                clear hk0
                refine region_below (W1.heap.size) (by kernel_rfl) (by kernel_rfl) ?_
                refine below_run (by kernel_rfl) (.int .i64 (k : Nat)) (fun w' hw' => by kernel_rfl) ?_
                refine below_run (by kernel_rfl) (.bool false) (fun w' hw' => Eq.trans (show (execOp _ _).run _ w' = .ok (.value (.bool (decide ((0 : Int) < (k : Int))))) w' by kernel_rfl) (by rw [q1])) ?_
                refine below_run (by kernel_rfl) (.bool false) (fun w' hw' => by kernel_rfl) ?_
                refine BigFrame.wpQuiet_skip (by kernel_rfl) ?_
                refine BigFrame.wpQuiet_skip (by kernel_rfl) ?_
                refine BigFrame.wpQuiet_skip (by kernel_rfl) ?_
                refine BigFrame.wpQuiet_skip (by kernel_rfl) ?_
                refine BigFrame.wpQuiet_skip (by kernel_rfl) ?_
                refine BigFrame.wpQuiet_skip (by kernel_rfl) ?_
                refine BigFrame.wpQuiet_skip (by kernel_rfl) ?_
                refine BigFrame.wpQuiet_skip (by kernel_rfl) ?_
                refine BigFrame.wpQuiet_skip (by kernel_rfl) ?_
                refine below_run (by kernel_rfl) (.bool false) (fun w' hw' => by kernel_rfl) ?_
                refine wpQuiet_nil ?_
                intro W2 hW2
                simp only [Act.put, List.setIfInBounds_toArray, List.set_cons_succ, List.set_cons_zero]
                have HB2 := Lib.hid (below_step HB1.out hW2)
                clear hW2
                repeat (first | go_values | go_skip | go_guarded | go_step | go_upon)
                go_roundw
                case rel => exact ⟨k + 1, hlt, by go_num, srN_succ HS.out (by rw [HAT2.out, decide_eq_true HK0.out]; rfl), HB2.out⟩
                case measure => simp [intOf]; omega
              · have q1 : decide ((0 : Int) < (k : Int)) = true := decide_eq_true (by omega)
                have e1 : IntKind.i64.wrap ((k : Int) - 1) = ((k - 1 : Nat) : Int) := by rw [IntWalk.i64_in _ (by omega)]; omega
                have hkp : k - 1 < n := by omega
                obtain ⟨p2, hp2, hrow2⟩ := HA.out.get (k - 1) (by rw [HN.out]; exact hkp)
                obtain rfl : p = p2 := by injection hp2
                have HR2 := Lib.hid hrow2
                obtain ⟨pv, hpv⟩ : ∃ pv, pv = (rdSr ps (k - 1)).lo := ⟨_, rfl⟩
                have HPV := Lib.hid hpv
                clear hrow2 hp2 hpv
                cases hbl : Op.bytesLess pv lo
                · have q2 : (!(Op.bytesLess (⟨pv.toArray⟩ : ByteArray).toList (⟨lo.toArray⟩ : ByteArray).toList)) = true := by rw [toList_bs, toList_bs, bs_mk, bs_mk, hbl]; rfl
                  refine region_below (W1.heap.size) (by kernel_rfl) (by kernel_rfl) ?_
                  refine below_run (by kernel_rfl) (.int .i64 (k : Nat)) (fun w' hw' => by kernel_rfl) ?_
                  refine below_run (by kernel_rfl) (.bool true) (fun w' hw' => Eq.trans (show (execOp _ _).run _ w' = .ok (.value (.bool (decide ((0 : Int) < (k : Int))))) w' by kernel_rfl) (by rw [q1])) ?_
                  refine below_run (by kernel_rfl) (.bool true) (fun w' hw' => by kernel_rfl) ?_
                  refine below_run (by kernel_rfl) (.slice (some p) n c) (fun w' hw' => by kernel_rfl) ?_
                  refine below_run (by kernel_rfl) (.int .i64 (k : Nat)) (fun w' hw' => by kernel_rfl) ?_
                  refine below_run (by kernel_rfl) (.int .i64 ((k - 1 : Nat) : Int)) (fun w' hw' => Eq.trans (show (execOp _ _).run _ w' = .ok (.value (.int .i64 (IntKind.i64.wrap ((k : Int) - 1)))) w' by kernel_rfl) (by rw [e1])) ?_
                  refine below_run (by kernel_rfl) (.pointer (some (Addr.add p ((k - 1) * 2)))) (fun w' hw' => exec_index 37 (.tmp 43) (.tmp 45) rfl p n c (by kernel_rfl) .i64 (k - 1) (by kernel_rfl) hkp 62 Tryz.underlying37 2 szSrI) ?_
                  refine below_run (by kernel_rfl) (.pointer (some (p.add ((k - 1) * 2)))) (fun w' hw' => by kernel_rfl) ?_
                  refine below_run (by kernel_rfl) (.string ⟨pv.toArray⟩) (fun w' hw' => exec_load1 9 (.tmp 47) rfl (p.add ((k - 1) * 2)) (by kernel_rfl) (.string ⟨pv.toArray⟩) (by rw [HPV.out]; have := ((HR2.out.next hw') 0 _ rfl); rwa [addr_zero] at this) _ Tryz.underlying9 rfl) ?_
                  refine below_run (by kernel_rfl) (.pointer (some ⟨g, 0, none⟩)) (fun w' hw' => by kernel_rfl) ?_
                  refine below_run (by kernel_rfl) (.string ⟨lo.toArray⟩) (fun w' hw' => exec_load1 9 (.tmp 49) rfl ⟨g, 0, none⟩ (by kernel_rfl) (.string ⟨lo.toArray⟩) (cell_next HC0.out hw') _ Tryz.underlying9 rfl) ?_
                  refine below_run (by kernel_rfl) (.bool true) (fun w' hw' => exec_str_geq (.tmp 48) (.tmp 50) rfl pv lo (by kernel_rfl) (by kernel_rfl) (by rw [hbl]; rfl)) ?_
                  refine below_run (by kernel_rfl) (.bool true) (fun w' hw' => by kernel_rfl) ?_
                  refine wpQuiet_nil ?_
                  intro W2 hW2
                  simp only [Act.put, List.setIfInBounds_toArray, List.set_cons_succ, List.set_cons_zero]
                  have HB2 := Lib.hid (below_step HB1.out hW2)
                  clear hW2
                  clear q2
                  repeat (first | go_values | go_skip | go_guarded | go_step | go_upon)
                  go_ret
                  exact ⟨by rw [HBD.out (by rw [HAT2.out, decide_eq_false hk0, ← HPV.out, hbl]; rfl)] <;> rfl, HB2.out⟩
                · have q2 : (!(Op.bytesLess (⟨pv.toArray⟩ : ByteArray).toList (⟨lo.toArray⟩ : ByteArray).toList)) = false := by rw [toList_bs, toList_bs, bs_mk, bs_mk, hbl]; rfl
                  refine region_below (W1.heap.size) (by kernel_rfl) (by kernel_rfl) ?_
                  refine below_run (by kernel_rfl) (.int .i64 (k : Nat)) (fun w' hw' => by kernel_rfl) ?_
                  refine below_run (by kernel_rfl) (.bool true) (fun w' hw' => Eq.trans (show (execOp _ _).run _ w' = .ok (.value (.bool (decide ((0 : Int) < (k : Int))))) w' by kernel_rfl) (by rw [q1])) ?_
                  refine below_run (by kernel_rfl) (.bool true) (fun w' hw' => by kernel_rfl) ?_
                  refine below_run (by kernel_rfl) (.slice (some p) n c) (fun w' hw' => by kernel_rfl) ?_
                  refine below_run (by kernel_rfl) (.int .i64 (k : Nat)) (fun w' hw' => by kernel_rfl) ?_
                  refine below_run (by kernel_rfl) (.int .i64 ((k - 1 : Nat) : Int)) (fun w' hw' => Eq.trans (show (execOp _ _).run _ w' = .ok (.value (.int .i64 (IntKind.i64.wrap ((k : Int) - 1)))) w' by kernel_rfl) (by rw [e1])) ?_
                  refine below_run (by kernel_rfl) (.pointer (some (Addr.add p ((k - 1) * 2)))) (fun w' hw' => exec_index 37 (.tmp 43) (.tmp 45) rfl p n c (by kernel_rfl) .i64 (k - 1) (by kernel_rfl) hkp 62 Tryz.underlying37 2 szSrI) ?_
                  refine below_run (by kernel_rfl) (.pointer (some (p.add ((k - 1) * 2)))) (fun w' hw' => by kernel_rfl) ?_
                  refine below_run (by kernel_rfl) (.string ⟨pv.toArray⟩) (fun w' hw' => exec_load1 9 (.tmp 47) rfl (p.add ((k - 1) * 2)) (by kernel_rfl) (.string ⟨pv.toArray⟩) (by rw [HPV.out]; have := ((HR2.out.next hw') 0 _ rfl); rwa [addr_zero] at this) _ Tryz.underlying9 rfl) ?_
                  refine below_run (by kernel_rfl) (.pointer (some ⟨g, 0, none⟩)) (fun w' hw' => by kernel_rfl) ?_
                  refine below_run (by kernel_rfl) (.string ⟨lo.toArray⟩) (fun w' hw' => exec_load1 9 (.tmp 49) rfl ⟨g, 0, none⟩ (by kernel_rfl) (.string ⟨lo.toArray⟩) (cell_next HC0.out hw') _ Tryz.underlying9 rfl) ?_
                  refine below_run (by kernel_rfl) (.bool false) (fun w' hw' => exec_str_geq (.tmp 48) (.tmp 50) rfl pv lo (by kernel_rfl) (by kernel_rfl) (by rw [hbl]; rfl)) ?_
                  refine below_run (by kernel_rfl) (.bool false) (fun w' hw' => by kernel_rfl) ?_
                  refine wpQuiet_nil ?_
                  intro W2 hW2
                  simp only [Act.put, List.setIfInBounds_toArray, List.set_cons_succ, List.set_cons_zero]
                  have HB2 := Lib.hid (below_step HB1.out hW2)
                  clear hW2
                  clear q2
                  have HBL := Lib.hid hbl
                  clear hbl
                  repeat (first | go_values | go_skip | go_guarded | go_step | go_upon)
                  go_roundw
                  case rel => exact ⟨k + 1, hlt, by go_num, srN_succ HS.out (by rw [HAT2.out, ← HPV.out, HBL.out]; simp), HB2.out⟩
                  case measure => simp [intOf]; omega
    · obtain rfl : k = n := by omega
      have HO := Lib.hid (srOk_len (ps := ps) (by rw [HN.out]; exact HS.out))
      by_cases h6 : (k : Int) ≤ 6
      · have HO2 := Lib.hid (HO.out.trans (decide_eq_true (by rw [HN.out]; omega)))
        repeat (first | go_values | go_skip | go_guarded | go_step | go_upon)
        go_ret
        exact ⟨by rw [HO2.out] <;> rfl, hbel⟩
      · have HO2 := Lib.hid (HO.out.trans (decide_eq_false (by rw [HN.out]; omega)))
        repeat (first | go_values | go_skip | go_guarded | go_step | go_upon)
        go_ret
        exact ⟨by rw [HO2.out] <;> rfl, hbel⟩
end Go.Proofs.YtnlnjpdnhdmndaaGreatDoor
