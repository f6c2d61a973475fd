/- Contract: the fewest shorts, by the program. -/
import Derived.Test.YtnlnjpdnhdmndaaGreatDoorSoK
import Derived.Test.YtnlnjpdnhdmndaaGreatDoorCmpL
import Derived.Test.YtnlnjpdnhdmndaaGreatDoorGH
import Derived.BigRegion


namespace Go.Proofs.YtnlnjpdnhdmndaaGreatDoor
open Go Go.RowKit
set_option linter.unusedVariables false
set_option linter.unusedSimpArgs false

theorem bits_and1S (n : Nat) (h : n < 9223372036854775808) : bits BinOp.and IntKind.i64 (n : Int) 1 = ((n % 2 : Nat) : Int) := by
  have e : (BitVec.ofInt 64 (n : Int) &&& BitVec.ofInt 64 1).toNat = n % 2 := by
    have h1 : (BitVec.ofInt 64 (n : Int)) = BitVec.ofNat 64 n := by simp
    have h2 : (BitVec.ofInt 64 (1 : Int)) = 1#64 := by decide
    rw [h1, h2, BitVec.toNat_and, BitVec.toNat_ofNat, BitVec.toNat_ofNat, Nat.mod_eq_of_lt (by omega : n < 2 ^ 64)]
    exact Nat.and_one_is_mod n
  show IntKind.i64.wrap ((BitVec.ofInt 64 (n : Int) &&& BitVec.ofInt 64 1).toNat : Int) = _
  rw [e]
  exact IntWalk.i64_in _ (by omega)
theorem exec_andS {o : Oper} {a : Act} {w : World} (x y : Operand) (ho : o.op = .binOp .and 3 x y 3) (n r : Nat) (hx : a.eval x = .int .i64 (n : Int)) (hy : a.eval y = .int .i64 1) (hn : n < 9223372036854775808) (hr : r = n % 2) :
    (execOp a.eval o).run Tryz.prog w = .ok (.value (.int .i64 (r : Int))) w := by
  have e := bits_and1S n hn
  rw [← hr] at e
  unfold execOp
  simp only [ho, hx, hy]
  go_simp
  all_goals rw [e]
theorem askC_not {f : Fc} {l : List UInt8} {b : Bool} (h : ¬ askC f l b = 0) : ((validF f && vText l) = false ∧ askC f l b = 1) ∨ ((validF f && vText l) = true ∧ b = false ∧ askC f l b = 2) := by
  unfold askC at h ⊢
  cases h1 : (validF f && vText l)
  · rw [if_neg (by simp)]; exact .inl ⟨rfl, rfl⟩
  · rw [if_pos rfl]
    cases b
    · rw [if_neg (by simp)]; exact .inr ⟨rfl, rfl, rfl⟩
    · rw [h1, if_pos rfl, if_pos rfl] at h; exact absurd rfl h
theorem pl (b : Bool) : (b && true) = b := by simp
attribute [local irreducible] wpQuiet in
set_option maxHeartbeats 4000000 in
set_option maxRecDepth 100000 in
theorem few_implS (f : Fc) (A B : Option Addr) (n c k d : Nat) (s : ByteArray) (ps : List Sr) (m : Int) (w : World) (hf : FcT f) (hn : f.pairs.length = n) (hm : n ≤ 1048576) (hs : s.size ≤ 1048576) (hk : ps.length = k) (hkm : k ≤ 1048576) (hb : SrB ps 1048576) (h : SlP w A f.pairs) (hr : SlR w B ps) (hmx : MaxW w) (hsp : SpT w) :
    Calls Tryz.prog 9 #[.agg (fcV f (.slice A n c)).toArray, .string s, .slice B k d, .int .i64 m] w (ListOut w (fsR f (bs s) ps m) (fsC f (bs s) ps m)) := by
  have hB := below_one w (.cells (fcV f (.slice A n c)).toArray 35)
  have hkk := Blk.new w 35 (fcV f (.slice A n c))
  have hsz : (fcV f (.slice A n c)).toArray.size = 29 := by simp [fcV_length hf]
  have HZ := Lib.hid (show (Tryz.prog.info? 35).map (·.size) = some (fcV f (.slice A n c)).toArray.size by rw [hsz]; exact szFcI)
  have HF := Lib.hid hf
  have HN := Lib.hid hn
  have HS := Lib.hid (h.next hB)
  have HM := Lib.hid (hmx.next hB)
  have HP := Lib.hid (hsp.next hB)
  have HK := Lib.hid hk
  have HSB := Lib.hid hb
  have HR := Lib.hid (hr.next hB)
  have HKK := Lib.hid hkk
  have HBB := Lib.hid hB
  clear hf hn h hk hb hr hB hmx hsp hsz
  obtain ⟨so, hso⟩ : ∃ b, b = srOk ps := ⟨_, rfl⟩
  have HSO := Lib.hid hso.symm
  clear hso
  go_enter Tryz.func9, Tryz.ntmps9
  go_wp2_with (refine wpList_load_row rfl 35 (.tmp 4) rfl _ rfl 35 (fcV f (.slice A n c)).toArray _ _ hkk Tryz.underlying35 rfl HZ.out ?_)
  clear hkk
  generalize (w.alloc (.cells (fcV f (.slice A n c)).toArray 35)) = W0 at *
  go_at_call 30
  refine (setterOf_impl f A n c s m _ HF.out HN.out hm hs HS.out HM.out HP.out).mono ?_
  rintro e w1 ⟨hb, ⟨hne, rfl⟩ | ⟨h0, g, rfl, hg, hgb⟩⟩
  · have HBX := Lib.hid (step_alloc (below_step HBB.out hb) (.cells zSt.toArray 65))
    have HMX := Lib.hid ((HM.out.next hb).next (below_one w1 (.cells zSt.toArray 65)))
    have HRX := Lib.hid ((HR.out.next hb).next (below_one w1 (.cells zSt.toArray 65)))
    clear hb
    have hc := askC_not hne
    have HNE := Lib.hid hne
    clear hne
    generalize askC f (bs s) (inB 0 4000 m) = cd at *
    dsimp only
    repeat ((with_reducible fail_if_success (show wpList _ _ _ (⟨none, .store 65 (.tmp 10) (.tmp 25), _, _, _, _⟩ :: _) _ _)); first | go_values | go_skip | go_guarded | go_step | go_upon)
    refine wpList_store_new rfl 65 _ _ rfl zSt.toArray rfl rfl 65 _ szStI rfl (one_st _ _ _ _ _ _ _ _) ?_
    generalize w1.alloc (.cells zSt.toArray 65) = W2 at *
    rcases hc with ⟨hv, rfl⟩ | ⟨hv, hin, rfl⟩
    · have HO := Lib.hid (fsC_1 (m := m) (show (validF f && vText (bs s) && srOk ps) = false by rw [hv]; rfl))
      have HO2 := Lib.hid (fsR_no HO.out (by decide))
      clear hv
      go_wp2
      go_ret2
      exact ⟨none, 0, by rw [HO.out, HO2.out] <;> rfl, HBX.out, by rw [HO2.out]; exact OwnS.nil⟩
    · cases so
      · skip
        have HO := Lib.hid (fsC_1 (m := m) (show (validF f && vText (bs s) && srOk ps) = false by rw [hv, HSO.out]; rfl))
        have HO2 := Lib.hid (fsR_no HO.out (by decide))
        clear hv hin
        go_wp2_with fail
        go_at_call 31
        refine (shorts_impl B d ps k _ HMX.out HK.out hkm HSB.out HRX.out).mono ?_
        rintro e w2 ⟨he, hb2⟩
        rw [HSO.out] at he
        subst he
        have HBX2 := Lib.hid (below_step HBX.out hb2)
        clear hb2
        dsimp only
        go_wp2
        go_ret2
        exact ⟨none, 0, by rw [HO.out, HO2.out] <;> rfl, HBX2.out, by rw [HO2.out]; exact OwnS.nil⟩
      · skip
        have HO := Lib.hid (fsC_2 (show (validF f && vText (bs s) && srOk ps) = true by rw [hv, HSO.out]; rfl) hin)
        have HO2 := Lib.hid (fsR_no HO.out (by decide))
        clear hv hin
        go_wp2_with fail
        go_at_call 31
        refine (shorts_impl B d ps k _ HMX.out HK.out hkm HSB.out HRX.out).mono ?_
        rintro e w2 ⟨he, hb2⟩
        rw [HSO.out] at he
        subst he
        have HBX2 := Lib.hid (below_step HBX.out hb2)
        clear hb2
        dsimp only
        go_wp2
        go_ret2
        exact ⟨none, 0, by rw [HO.out, HO2.out] <;> rfl, HBX2.out, by rw [HO2.out]; exact OwnS.nil⟩
  · obtain ⟨hv, ht, hin⟩ := askC_zero h0
    have hx := Blk.new w1 65 (stV f (.slice A n c) (wS g (words (bs s))) m)
    have hbx := below_one w1 (.cells (stV f (.slice A n c) (wS g (words (bs s))) m).toArray 65)
    have HBX := Lib.hid (below_step (below_step HBB.out hb) hbx)
    have HMX := Lib.hid ((HM.out.next hb).next hbx)
    have HSX := Lib.hid ((HS.out.next hb).next hbx)
    have HKX := Lib.hid ((HKK.out.next hb).next hbx)
    have HRX := Lib.hid ((HR.out.next hb).next hbx)
    have HGX := Lib.hid (hgb.next hbx)
    clear hb hbx hgb h0
    dsimp only
    repeat ((with_reducible fail_if_success (show wpList _ _ _ (⟨none, .store 65 (.tmp 10) (.tmp 25), _, _, _, _⟩ :: _) _ _)); first | go_values | go_skip | go_guarded | go_step | go_upon)
    refine wpList_store_new rfl 65 _ _ rfl (stV f (.slice A n c) (wS g (words (bs s))) m).toArray rfl rfl 65 _ (stSz HF.out _ _ _) (stOld HF.out _ _ _) (one_st _ _ _ _ _ _ _ _) ?_
    obtain ⟨bS, hbS⟩ : ∃ bS, bS = w1.heap.size := ⟨_, rfl⟩
    rw [← hbS] at hx ⊢
    clear hbS
    have c29 := hx.cell 29 (wS g (words (bs s))) (stV_words HF.out _ _ _)
    have HC29 := Lib.hid c29
    clear hx c29
    generalize w1.alloc (.cells (stV f (.slice A n c) (wS g (words (bs s))) m).toArray 65) = W2 at *
    have HV := Lib.hid hv
    have HVV := Lib.hid (validF_iff.1 hv)
    have HW0 := Lib.hid (ws_words ht)
    have HJ0 := Lib.hid (show (joinW (words (bs s))).length ≤ 60 by rw [joinW_words]; exact (vText_iff.1 ht).2)
    have hcnt := words_count ht
    cases so
    · skip
      have HO := Lib.hid (fsC_1 (m := m) (show (validF f && vText (bs s) && srOk ps) = false by rw [hv, HSO.out]; simp))
      have HO2 := Lib.hid (fsR_no HO.out (by decide))
      clear hv ht hin
      go_wp2_with fail
      go_at_call 31
      refine (shorts_impl B d ps k _ HMX.out HK.out hkm HSB.out HRX.out).mono ?_
      rintro e w2 ⟨he, hb2⟩
      rw [HSO.out] at he
      subst he
      have HBX2 := Lib.hid (below_step HBX.out hb2)
      clear hb2
      dsimp only
      go_wp2
      go_ret2
      exact ⟨none, 0, by rw [HO.out, HO2.out] <;> rfl, HBX2.out, by rw [HO2.out]; exact OwnS.nil⟩
    · have HVQ := Lib.hid (show (validF f && vText (bs s) && srOk ps) = true by rw [hv, ht, HSO.out]; rfl)
      have HIN := Lib.hid hin
      have HSV := Lib.hid (srOk_V HSO.out)
      clear hv ht hin
      obtain ⟨ws, hws⟩ : ∃ ws, ws = words (bs s) := ⟨_, rfl⟩
      rw [← hws] at HW0 HJ0 hcnt HGX HC29
      have HWS := Lib.hid hws
      obtain ⟨al, hal⟩ : ∃ al, al = whichS ps ws := ⟨_, rfl⟩
      have HAL := Lib.hid hal
      have hqc : al.length ≤ 60 := by rw [hal]; exact Nat.le_trans (which_len ps ws) hcnt
      obtain ⟨q, hq⟩ : ∃ q, q = al.length := ⟨_, rfl⟩
      obtain ⟨N, hNN⟩ : ∃ N, N = ws.length := ⟨_, rfl⟩
      have HQL := Lib.hid hq.symm
      have HNL := Lib.hid hNN.symm
      rw [← hq] at hqc
      rw [← hNN] at hcnt
      have HQW := Lib.hid (show q = (whichS ps (words (bs s))).length by rw [hq, hal, hws])
      have HC29 := Lib.hid (show W2.cell? ⟨bS, 29, none⟩ = some (.slice (some ⟨g, 0, none⟩) N N) by rw [hNN]; exact HC29.out)
      have HSL := Lib.hid (show SlE sv W2 (some ⟨g, 0, none⟩) ws by have := HGX.out; rw [show wsV ws = ws.map sv ++ [] by rw [List.append_nil]; rfl] at this; exact slE_blkS this)
      clear hws hal hq hNN HGX
      go_wp2_with fail
      go_at_call 31
      refine (shorts_impl B d ps k _ HMX.out HK.out hkm HSB.out HRX.out).mono ?_
      rintro e w2 ⟨he, hb2⟩
      rw [HSO.out] at he
      subst he
      have HBX2 := Lib.hid (below_step HBX.out hb2)
      have hc29 := cell_next HC29.out hb2
      have HMX := Lib.hid (HMX.out.next hb2)
      have HSX := Lib.hid (HSX.out.next hb2)
      have HKX := Lib.hid (HKX.out.next hb2)
      have HRX := Lib.hid (HRX.out.next hb2)
      have HSL := Lib.hid (HSL.out.next hb2)
      have HC29 := Lib.hid hc29
      clear hb2 HBX
      dsimp only
      have c29 := HC29.out
      go_wp2_with fail
      clear c29
      go_at_call 32
      refine (which_impl B (some ⟨g, 0, none⟩) d N ps ws k N _ HK.out hkm HRX.out HNL.out (by omega) HSL.out).mono ?_
      rintro e w4 ⟨v, rfl, hown, hb4⟩
      obtain ⟨A4, c4, rfl, hl4, _, hs4⟩ := SlE_own hown
      rw [← HAL.out, HQL.out]
      have hs4 : SlE i64 w4 A4 al := by rw [HAL.out]; exact hs4
      have HB4 := Lib.hid (below_step HBX2.out hb4)
      have HMX := Lib.hid (HMX.out.next hb4)
      have HSX := Lib.hid (HSX.out.next hb4)
      have HKX := Lib.hid (HKX.out.next hb4)
      have HRX := Lib.hid (HRX.out.next hb4)
      have HSL := Lib.hid (HSL.out.next hb4)
      have HC29 := Lib.hid (cell_next HC29.out hb4)
      have HS4 := Lib.hid hs4
      clear hb4 hs4 hown hl4 HBX2
      dsimp only
      by_cases h10 : (10 : Int) < (q : Int)
      · have HO := Lib.hid (fsC_3 HVQ.out HIN.out (by rw [← HQW.out]; omega))
        have HO2 := Lib.hid (fsR_no HO.out (by decide))
        go_wp2
        go_ret2
        exact ⟨none, 0, by rw [HO.out, HO2.out] <;> rfl, HB4.out, by rw [HO2.out]; exact OwnS.nil⟩
      · obtain ⟨P, hP⟩ : ∃ P, P = 2 ^ q := ⟨_, rfl⟩
        have hPb := pow10S (show q ≤ 10 by omega)
        rw [← hP] at hPb
        have HPP := Lib.hid hP
        have HC4 := Lib.hid (show fsC f (bs s) ps m = if (fewS f ps ws m P).found then 0 else 6 by rw [fsC_4 HVQ.out HIN.out (by rw [← HQW.out]; omega), ← HQW.out, ← hP, ← HWS.out])
        have HR9 := Lib.hid (fun (g : fsC f (bs s) ps m = 0) => show fsR f (bs s) ps m = (fewS f ps ws m P).best by rw [fsR_yes g, ← HQW.out, ← hP, ← HWS.out])
        clear hP
        repeat ((with_reducible fail_if_success (show wpList _ _ _ (⟨some 49, _, _, _, _, _⟩ :: _) _ _)); first | go_values | go_skip | go_guarded | go_step | go_upon)
        refine wpList_val (by kernel_rfl) (.int .i64 (P : Int)) _ (exec_shlI (.const (.int .i64 1)) (.tmp 48) rfl q P (by kernel_rfl) (by kernel_rfl) (by omega) HPP.out (by omega)) ?_
        repeat ((with_reducible fail_if_success (show Code.wp _ (Code.loop _) _ _ _)); first | go_values | go_skip | go_guarded | go_step | go_upon)
        go_loopw [13, 14, 50] (fun v u i wr => ∃ t : Nat, t ≤ P ∧ i = .int .i64 t ∧ u = .bool (fewS f ps ws m t).found ∧ (∃ Ab cb, v = .slice Ab (fewS f ps ws m t).best.length cb ∧ OwnS wr w4.heap.size wr.heap.size Ab (fewS f ps ws m t).best) ∧ Below w4.heap.size w4 wr) (fun _ _ i _ => P - (intOf i).toNat)
        case atStart => exact ⟨0, by omega, rfl, rfl, ⟨_, _, rfl, OwnS.nil⟩, below_one _ _⟩
        case round =>
          obtain ⟨t, ht, rfl, rfl, ⟨Ab, cb, rfl, hbest⟩, hbel⟩ := hrel
          have HBE := Lib.hid hbest
          have HBL := Lib.hid hbel
          have hbl0 := fewS_len f ps ws m t
          rw [← HAL.out, HQL.out] at hbl0
          clear hbest hbel
          by_cases hlt : t < P
          · skip
            have hlti : (t : Int) < (P : Int) := by omega
            have hown := own_empty wr wr.heap.size rfl wr.heap.size 2 (Nat.le_refl _) 1
            have hb0 := below_one wr (.cells #[] 2)
            repeat ((with_reducible fail_if_success (show wpList _ _ _ (⟨some 53, _, _, _, _, _⟩ :: _) _ _)); first | go_values | go_skip | go_guarded | go_step | go_upon)
            refine wpList_val (by kernel_rfl) (.slice (some ⟨wr.heap.size, 0, none⟩) 0 0) (wr.alloc (.cells #[] 2)) (by kernel_rfl) ?_
            repeat ((with_reducible fail_if_success (show Code.wp _ (Code.loop _) _ _ _)); first | go_values | go_skip | go_guarded | go_step | go_upon)
            rename World => wo
            go_loopw [16, 56] (fun v z wx => ∃ j : Nat, j ≤ q ∧ z = .int .i64 j ∧ wx.ownsRow wo.heap.size 2 1 v (pickS al t j).length ((pickS al t j).map i64) ∧ Below wo.heap.size wo wx) (fun _ z _ => q - (intOf z).toNat)
            case atStart => exact ⟨0, by omega, rfl, hown, hb0⟩
            case round =>
              obtain ⟨j, hj, rfl, hown2, hbx⟩ := hrel
              have hol := pickS_len al t j
              clear hown hb0
              have HBX := Lib.hid hbx
              by_cases hlj : j < q
              · skip
                have HOW := Lib.hid hown2
                have hszx := hbx.size
                have hbx4 := below_step HBL.out hbx
                obtain ⟨a4, ea4, ra4⟩ := (HS4.out.next hbx4).some j (by rw [HQL.out]; exact hlj)
                subst ea4
                have ca := ra4.atI64 j (by rw [HQL.out]; exact hlj)
                clear hown2 hbx hbx4 ra4
                obtain ⟨qq, hqq⟩ : ∃ qq, qq = t / 2 ^ j := ⟨_, rfl⟩
                have HQQ := Lib.hid hqq
                have hbe := bit_eqS t j
                have hqb : qq ≤ t := by rw [hqq]; exact Nat.div_le_self _ _
                rw [← hqq] at hbe
                clear hqq
                obtain ⟨r, hr⟩ : ∃ r, r = qq % 2 := ⟨_, rfl⟩
                rw [← hr] at hbe
                have HR2 := Lib.hid hr
                have HBE2 := Lib.hid hbe
                clear hr hbe
                repeat ((with_reducible fail_if_success (show wpList _ _ _ (⟨some 63, _, _, _, _, _⟩ :: _) _ _)); first | go_values | go_skip | go_guarded | go_step | go_upon)
                refine wpList_val (by kernel_rfl) (.int .i64 (qq : Int)) _ (exec_shrI (.tmp 61) (.tmp 62) rfl t j qq (by kernel_rfl) (by kernel_rfl) (by omega) HQQ.out) ?_
                repeat ((with_reducible fail_if_success (show wpList _ _ _ (⟨some 64, _, _, _, _, _⟩ :: _) _ _)); first | go_values | go_skip | go_guarded | go_step | go_upon)
                refine wpList_val (by kernel_rfl) (.int .i64 (r : Int)) _ (exec_andS (.tmp 63) (.const (.int .i64 1)) rfl qq r (by kernel_rfl) (by kernel_rfl) (by omega) HR2.out) ?_
                cases htb : t.testBit j
                · have hrb : ((r : Int) == 1) = false := by rw [HBE2.out]; exact htb
                  have HN9 := Lib.hid (show pickS al t (j + 1) = pickS al t j by rw [pickS, htb]; rfl)
                  clear htb
                  repeat (first | go_values | go_skip | go_guarded | go_step | go_upon)
                  go_roundw
                  case rel => exact ⟨j + 1, by omega, by go_num, by rw [HN9.out]; exact HOW.out, HBX.out⟩
                  case measure => simp [intOf]; omega
                · have hrb : ((r : Int) == 1) = true := by rw [HBE2.out]; exact htb
                  have HN9 := Lib.hid (show pickS al t (j + 1) = pickS al t j ++ [rdI al j] by rw [pickS, htb, if_pos rfl])
                  clear htb
                  repeat ((with_reducible fail_if_success (show wpList _ _ _ (⟨some 69, _, _, _, _, _⟩ :: _) _ _)); first | go_values | go_skip | go_guarded | go_step | go_upon)
                  refine wpList_app1 rfl (.tmp 66) (.tmp 68) _ rfl elI wr wo.heap.size u16 (pickS al t j).length _ rfl HOW.out (.int .i64 (rdI al j)) _ rfl rfl rfl (by unfold maxLen; omega) (by omega) hszx ?_
                  intro v' w' ho' hg'
                  simp only [Act.put, List.setIfInBounds_toArray, List.set_cons_succ, List.set_cons_zero]
                  have HB9 := Lib.hid (below_own HBX.out HOW.out hg' (Nat.le_refl _) hszx)
                  clear hg' ca
                  repeat (first | go_values | go_skip | go_guarded | go_step | go_upon)
                  go_roundw
                  case rel =>
                    refine ⟨j + 1, by omega, by go_num, ?_, HB9.out⟩
                    rw [HN9.out, List.length_append, List.map_append]
                    exact ho'
                  case measure => simp [intOf]; omega
              · obtain rfl : j = q := by omega
                obtain ⟨Ao, co, rfl, hlo, hoo⟩ := OwnS.of_own hown2
                obtain ⟨ow, how⟩ : ∃ ow, ow = pickS al t j := ⟨_, rfl⟩
                have HOE := Lib.hid (show ow = ownS' ps ws t by rw [how]; unfold ownS'; rw [← HAL.out, HQL.out])
                rw [← how] at hoo hol ⊢
                have HOA := Lib.hid (show AtV ps ws ow by rw [HOE.out]; exact ownS_at ps ws t)
                clear how hlo hown2
                obtain ⟨L, hL⟩ : ∃ L, L = ow.length := ⟨_, rfl⟩
                rw [← hL] at hol ⊢
                have HLL := Lib.hid hL.symm
                clear hL
                obtain ⟨lw, hlw⟩ : ∃ lw, lw = lineS f ps ws ow := ⟨_, rfl⟩
                have HLW := Lib.hid hlw
                have HAW := Lib.hid (atS_ws HSV.out HW0.out HJ0.out HOA.out (Nat.le_refl _))
                have hsx := hoo.sl
                have hzo4 := HBL.out.size
                have hzox := hbx.size
                have hbx4 := below_step HBL.out hbx
                have HMX := Lib.hid (HMX.out.next hbx4)
                have HSX := Lib.hid (HSX.out.next hbx4)
                have HKX := Lib.hid (HKX.out.next hbx4)
                have HRX := Lib.hid (HRX.out.next hbx4)
                have HSL := Lib.hid (HSL.out.next hbx4)
                have HS4 := Lib.hid (HS4.out.next hbx4)
                have HC29 := Lib.hid (cell_next HC29.out hbx4)
                have HOO := Lib.hid hoo
                have HSO2 := Lib.hid hsx
                have HBEX := Lib.hid (HBE.out.next hbx)
                have HB4X := Lib.hid hbx4
                clear hbx hbx4 hoo hsx HBE hlw HBX HBL
                have HFN := Lib.hid (fun h => fewS_no (f := f) (ps := ps) (ws := ws) (m := m) (s := t) h)
                have HFY := Lib.hid (fun h1 h2 => fewS_yes (f := f) (ps := ps) (ws := ws) (m := m) (s := t) h1 h2)
                rw [← HOE.out, ← show lw = lineS f ps ws ow from HLW.out] at HFN HFY
                have HOLO := Lib.hid (HOO.out.low9 (show w4.heap.size ≤ wo.heap.size by omega))
                have HBHI := Lib.hid (show OwnS wr w4.heap.size wr.heap.size Ab (fewS f ps ws m t).best from fun hn => by
                  obtain ⟨g, cs, e, h1, h2, h3⟩ := HBEX.out hn
                  exact ⟨g, cs, e, h1, by omega, h3⟩)
                have HBES := Lib.hid HBEX.out.sl
                clear HBEX HOO
                generalize fewS f ps ws m t = st at *
                obtain ⟨best, found⟩ := st
                dsimp only at hbl0 HFN HFY HBHI HBES ⊢
                obtain ⟨jt, hjt⟩ : ∃ jt, jt = joinW (atS ps ws ow ow.length) := ⟨_, rfl⟩
                have HJL := Lib.hid (show (⟨jt.toArray⟩ : ByteArray).size ≤ 60 from szL (by rw [hjt]; exact HAW.out.2))
                have HJS := Lib.hid (show LS (bs ⟨jt.toArray⟩) by rw [bs_mk, hjt]; exact joinW_ls HAW.out.1.isw)
                have HSHI := Lib.hid (fun (W : World) (hr : SlR W B ps) (hs : SlE sv W (some ⟨g, 0, none⟩) ws) (ho : SlE i64 W Ao ow) => (show Calls Tryz.prog 35 #[.slice (some ⟨g, 0, none⟩) N N, .slice B k d, .slice Ao L co] W (fun e w' => e = .returned (.string ⟨jt.toArray⟩) ∧ Below W.heap.size W w') by rw [hjt]; exact short_impl B Ao ⟨g, 0, none⟩ d N co ps ws ow k N L W HK.out hkm hr HNL.out hcnt hs HLL.out (by omega) ho HOA.out (Nat.le_trans HAW.out.2 (by decide))))
                have HWDI := Lib.hid (fun (W : World) (hp : SlP W A f.pairs) => (show Calls Tryz.prog 34 #[.agg (fcV f (.slice A n c)).toArray, .string ⟨jt.toArray⟩] W (fun e w' => e = .returned (.int .i64 lw) ∧ Below W.heap.size W w') by
                  have := wide_impl f A n c ⟨jt.toArray⟩ W HF.out HVV.out HN.out hm HJS.out HJL.out hp
                  rw [bs_mk, show lineW f jt = lw by rw [HLW.out, hjt]; rfl] at this
                  exact this))
                clear hjt HAW HJS HJL
                cases found
                · skip
                  repeat ((with_reducible fail_if_success (show Code.wp _ (Code.region 21 _ _) _ _ _)); first | go_values | go_skip | go_guarded | go_step | go_upon)
                  by_cases hmw : lw ≤ m
                  · have qm := decide_eq_true hmw
                    have HX := Lib.hid (HFY.out hmw betS_1)
                    clear hmw
                    refine region_below (wr.heap.size) (by kernel_rfl) (by kernel_rfl) ?_
                    refine below_run (by kernel_rfl) (.bool true) (fun w' hw' => by kernel_rfl) ?_
                    refine below_run (by kernel_rfl) (.bool true) (fun w' hw' => by kernel_rfl) ?_
                    refine below_run (by kernel_rfl) (.agg (fcV f (.slice A n c)).toArray) (fun w' hw' => exec_load_row 35 (.tmp 4) rfl (w.heap.size) (by kernel_rfl) 35 (fcV f (.slice A n c)).toArray _ _ (HKX.out.next hw') Tryz.underlying35 rfl (HZ.out)) ?_
                    refine below_run (by kernel_rfl) (.pointer (some ⟨bS, 29, none⟩)) (fun w' hw' => by kernel_rfl) ?_
                    refine below_run (by kernel_rfl) (.slice (some ⟨g, 0, none⟩) N N) (fun w' hw' => exec_load1 54 (.tmp 96) rfl ⟨bS, 29, none⟩ (by kernel_rfl) (.slice (some ⟨g, 0, none⟩) N N) (cell_next HC29.out hw') _ Tryz.underlying54 rfl) ?_
                    refine below_run (by kernel_rfl) (.slice B k d) (fun w' hw' => by kernel_rfl) ?_
                    refine below_run (by kernel_rfl) (.slice Ao L co) (fun w' hw' => by kernel_rfl) ?_
                    refine below_call (by kernel_rfl) 35 #[.slice (some ⟨g, 0, none⟩) N N, .slice B k d, .slice Ao L co] (.string ⟨jt.toArray⟩) (fun w' => by kernel_rfl) (fun w' hw' => (HSHI.out w' (HRX.out.next hw') (HSL.out.next hw') (HSO2.out.next hw')).mono fun e w1 ⟨he, hb1⟩ => ⟨he, below_step hw' hb1⟩) ?_
                    refine below_call (by kernel_rfl) 34 #[.agg (fcV f (.slice A n c)).toArray, .string ⟨jt.toArray⟩] (.int .i64 lw) (fun w' => by kernel_rfl) (fun w' hw' => (HWDI.out w' (HSX.out.next hw')).mono fun e w1 ⟨he, hb1⟩ => ⟨he, below_step hw' hb1⟩) ?_
                    refine below_run (by kernel_rfl) (.int .i64 m) (fun w' hw' => by kernel_rfl) ?_
                    refine below_run (by kernel_rfl) (.bool true) (fun w' hw' => Eq.trans (show (execOp _ _).run _ w' = .ok (.value (.bool (decide (lw ≤ m)))) w' by kernel_rfl) (by rw [qm])) ?_
                    refine below_run (by kernel_rfl) (.bool true) (fun w' hw' => by kernel_rfl) ?_
                    refine wpQuiet_nil ?_
                    intro W9 hW9
                    simp only [Act.put, List.setIfInBounds_toArray, List.set_cons_succ, List.set_cons_zero]
                    have HBHI := Lib.hid (HBHI.out.upto9 hW9)
                    have HOLO := Lib.hid (HOLO.out.upto9 hW9)
                    have HB4X := Lib.hid (below_step HB4X.out hW9)
                    clear hW9 HSHI HWDI
                    go_wp2
                    go_roundw
                    case rel => exact ⟨t + 1, by omega, by go_num, by rw [HX.out], ⟨Ao, co, by rw [HX.out, ← HLL.out], by rw [HX.out]; exact HOLO.out⟩, HB4X.out⟩
                    case measure => simp [intOf]; omega
                  · have qm := decide_eq_false hmw
                    have HX := Lib.hid (HFN.out (.inl (by omega)))
                    clear hmw
                    refine region_below (wr.heap.size) (by kernel_rfl) (by kernel_rfl) ?_
                    refine below_run (by kernel_rfl) (.bool true) (fun w' hw' => by kernel_rfl) ?_
                    refine below_run (by kernel_rfl) (.bool true) (fun w' hw' => by kernel_rfl) ?_
                    refine below_run (by kernel_rfl) (.agg (fcV f (.slice A n c)).toArray) (fun w' hw' => exec_load_row 35 (.tmp 4) rfl (w.heap.size) (by kernel_rfl) 35 (fcV f (.slice A n c)).toArray _ _ (HKX.out.next hw') Tryz.underlying35 rfl (HZ.out)) ?_
                    refine below_run (by kernel_rfl) (.pointer (some ⟨bS, 29, none⟩)) (fun w' hw' => by kernel_rfl) ?_
                    refine below_run (by kernel_rfl) (.slice (some ⟨g, 0, none⟩) N N) (fun w' hw' => exec_load1 54 (.tmp 96) rfl ⟨bS, 29, none⟩ (by kernel_rfl) (.slice (some ⟨g, 0, none⟩) N N) (cell_next HC29.out hw') _ Tryz.underlying54 rfl) ?_
                    refine below_run (by kernel_rfl) (.slice B k d) (fun w' hw' => by kernel_rfl) ?_
                    refine below_run (by kernel_rfl) (.slice Ao L co) (fun w' hw' => by kernel_rfl) ?_
                    refine below_call (by kernel_rfl) 35 #[.slice (some ⟨g, 0, none⟩) N N, .slice B k d, .slice Ao L co] (.string ⟨jt.toArray⟩) (fun w' => by kernel_rfl) (fun w' hw' => (HSHI.out w' (HRX.out.next hw') (HSL.out.next hw') (HSO2.out.next hw')).mono fun e w1 ⟨he, hb1⟩ => ⟨he, below_step hw' hb1⟩) ?_
                    refine below_call (by kernel_rfl) 34 #[.agg (fcV f (.slice A n c)).toArray, .string ⟨jt.toArray⟩] (.int .i64 lw) (fun w' => by kernel_rfl) (fun w' hw' => (HWDI.out w' (HSX.out.next hw')).mono fun e w1 ⟨he, hb1⟩ => ⟨he, below_step hw' hb1⟩) ?_
                    refine below_run (by kernel_rfl) (.int .i64 m) (fun w' hw' => by kernel_rfl) ?_
                    refine below_run (by kernel_rfl) (.bool false) (fun w' hw' => Eq.trans (show (execOp _ _).run _ w' = .ok (.value (.bool (decide (lw ≤ m)))) w' by kernel_rfl) (by rw [qm])) ?_
                    refine below_run (by kernel_rfl) (.bool false) (fun w' hw' => by kernel_rfl) ?_
                    refine wpQuiet_nil ?_
                    intro W9 hW9
                    simp only [Act.put, List.setIfInBounds_toArray, List.set_cons_succ, List.set_cons_zero]
                    have HBHI := Lib.hid (HBHI.out.upto9 hW9)
                    have HOLO := Lib.hid (HOLO.out.upto9 hW9)
                    have HB4X := Lib.hid (below_step HB4X.out hW9)
                    clear hW9 HSHI HWDI
                    go_wp2
                    go_roundw
                    case rel => exact ⟨t + 1, by omega, by go_num, by rw [HX.out], ⟨Ab, cb, by rw [HX.out], by rw [HX.out]; exact HBHI.out⟩, HB4X.out⟩
                    case measure => simp [intOf]; omega
                · obtain ⟨Lb, hLb⟩ : ∃ Lb, Lb = best.length := ⟨_, rfl⟩
                  have HLB := Lib.hid hLb.symm
                  rw [← hLb] at hbl0 ⊢
                  clear hLb
                  by_cases g1 : (L : Int) < (Lb : Int)
                  · have HBT := Lib.hid (betS_2 (o := ow) (b := best) (by rw [HLL.out, HLB.out]; omega))
                    repeat ((with_reducible fail_if_success (show Code.wp _ (Code.region 21 _ _) _ _ _)); first | go_values | go_skip | go_guarded | go_step | go_upon)
                    by_cases hmw : lw ≤ m
                    · have qm := decide_eq_true hmw
                      have HX := Lib.hid (HFY.out hmw HBT.out)
                      clear hmw
                      refine region_below (wr.heap.size) (by kernel_rfl) (by kernel_rfl) ?_
                      refine below_run (by kernel_rfl) (.bool true) (fun w' hw' => by kernel_rfl) ?_
                      refine below_run (by kernel_rfl) (.bool true) (fun w' hw' => by kernel_rfl) ?_
                      refine below_run (by kernel_rfl) (.agg (fcV f (.slice A n c)).toArray) (fun w' hw' => exec_load_row 35 (.tmp 4) rfl (w.heap.size) (by kernel_rfl) 35 (fcV f (.slice A n c)).toArray _ _ (HKX.out.next hw') Tryz.underlying35 rfl (HZ.out)) ?_
                      refine below_run (by kernel_rfl) (.pointer (some ⟨bS, 29, none⟩)) (fun w' hw' => by kernel_rfl) ?_
                      refine below_run (by kernel_rfl) (.slice (some ⟨g, 0, none⟩) N N) (fun w' hw' => exec_load1 54 (.tmp 96) rfl ⟨bS, 29, none⟩ (by kernel_rfl) (.slice (some ⟨g, 0, none⟩) N N) (cell_next HC29.out hw') _ Tryz.underlying54 rfl) ?_
                      refine below_run (by kernel_rfl) (.slice B k d) (fun w' hw' => by kernel_rfl) ?_
                      refine below_run (by kernel_rfl) (.slice Ao L co) (fun w' hw' => by kernel_rfl) ?_
                      refine below_call (by kernel_rfl) 35 #[.slice (some ⟨g, 0, none⟩) N N, .slice B k d, .slice Ao L co] (.string ⟨jt.toArray⟩) (fun w' => by kernel_rfl) (fun w' hw' => (HSHI.out w' (HRX.out.next hw') (HSL.out.next hw') (HSO2.out.next hw')).mono fun e w1 ⟨he, hb1⟩ => ⟨he, below_step hw' hb1⟩) ?_
                      refine below_call (by kernel_rfl) 34 #[.agg (fcV f (.slice A n c)).toArray, .string ⟨jt.toArray⟩] (.int .i64 lw) (fun w' => by kernel_rfl) (fun w' hw' => (HWDI.out w' (HSX.out.next hw')).mono fun e w1 ⟨he, hb1⟩ => ⟨he, below_step hw' hb1⟩) ?_
                      refine below_run (by kernel_rfl) (.int .i64 m) (fun w' hw' => by kernel_rfl) ?_
                      refine below_run (by kernel_rfl) (.bool true) (fun w' hw' => Eq.trans (show (execOp _ _).run _ w' = .ok (.value (.bool (decide (lw ≤ m)))) w' by kernel_rfl) (by rw [qm])) ?_
                      refine below_run (by kernel_rfl) (.bool true) (fun w' hw' => by kernel_rfl) ?_
                      refine wpQuiet_nil ?_
                      intro W9 hW9
                      simp only [Act.put, List.setIfInBounds_toArray, List.set_cons_succ, List.set_cons_zero]
                      have HBHI := Lib.hid (HBHI.out.upto9 hW9)
                      have HOLO := Lib.hid (HOLO.out.upto9 hW9)
                      have HB4X := Lib.hid (below_step HB4X.out hW9)
                      clear hW9 HSHI HWDI
                      go_wp2
                      go_roundw
                      case rel => exact ⟨t + 1, by omega, by go_num, by rw [HX.out], ⟨Ao, co, by rw [HX.out, ← HLL.out], by rw [HX.out]; exact HOLO.out⟩, HB4X.out⟩
                      case measure => simp [intOf]; omega
                    · have qm := decide_eq_false hmw
                      have HX := Lib.hid (HFN.out (.inl (by omega)))
                      clear hmw
                      refine region_below (wr.heap.size) (by kernel_rfl) (by kernel_rfl) ?_
                      refine below_run (by kernel_rfl) (.bool true) (fun w' hw' => by kernel_rfl) ?_
                      refine below_run (by kernel_rfl) (.bool true) (fun w' hw' => by kernel_rfl) ?_
                      refine below_run (by kernel_rfl) (.agg (fcV f (.slice A n c)).toArray) (fun w' hw' => exec_load_row 35 (.tmp 4) rfl (w.heap.size) (by kernel_rfl) 35 (fcV f (.slice A n c)).toArray _ _ (HKX.out.next hw') Tryz.underlying35 rfl (HZ.out)) ?_
                      refine below_run (by kernel_rfl) (.pointer (some ⟨bS, 29, none⟩)) (fun w' hw' => by kernel_rfl) ?_
                      refine below_run (by kernel_rfl) (.slice (some ⟨g, 0, none⟩) N N) (fun w' hw' => exec_load1 54 (.tmp 96) rfl ⟨bS, 29, none⟩ (by kernel_rfl) (.slice (some ⟨g, 0, none⟩) N N) (cell_next HC29.out hw') _ Tryz.underlying54 rfl) ?_
                      refine below_run (by kernel_rfl) (.slice B k d) (fun w' hw' => by kernel_rfl) ?_
                      refine below_run (by kernel_rfl) (.slice Ao L co) (fun w' hw' => by kernel_rfl) ?_
                      refine below_call (by kernel_rfl) 35 #[.slice (some ⟨g, 0, none⟩) N N, .slice B k d, .slice Ao L co] (.string ⟨jt.toArray⟩) (fun w' => by kernel_rfl) (fun w' hw' => (HSHI.out w' (HRX.out.next hw') (HSL.out.next hw') (HSO2.out.next hw')).mono fun e w1 ⟨he, hb1⟩ => ⟨he, below_step hw' hb1⟩) ?_
                      refine below_call (by kernel_rfl) 34 #[.agg (fcV f (.slice A n c)).toArray, .string ⟨jt.toArray⟩] (.int .i64 lw) (fun w' => by kernel_rfl) (fun w' hw' => (HWDI.out w' (HSX.out.next hw')).mono fun e w1 ⟨he, hb1⟩ => ⟨he, below_step hw' hb1⟩) ?_
                      refine below_run (by kernel_rfl) (.int .i64 m) (fun w' hw' => by kernel_rfl) ?_
                      refine below_run (by kernel_rfl) (.bool false) (fun w' hw' => Eq.trans (show (execOp _ _).run _ w' = .ok (.value (.bool (decide (lw ≤ m)))) w' by kernel_rfl) (by rw [qm])) ?_
                      refine below_run (by kernel_rfl) (.bool false) (fun w' hw' => by kernel_rfl) ?_
                      refine wpQuiet_nil ?_
                      intro W9 hW9
                      simp only [Act.put, List.setIfInBounds_toArray, List.set_cons_succ, List.set_cons_zero]
                      have HBHI := Lib.hid (HBHI.out.upto9 hW9)
                      have HOLO := Lib.hid (HOLO.out.upto9 hW9)
                      have HB4X := Lib.hid (below_step HB4X.out hW9)
                      clear hW9 HSHI HWDI
                      go_wp2
                      go_roundw
                      case rel => exact ⟨t + 1, by omega, by go_num, by rw [HX.out], ⟨Ab, cb, by rw [HX.out, ← HLB.out], by rw [HX.out]; exact HBHI.out⟩, HB4X.out⟩
                      case measure => simp [intOf]; omega
                  · by_cases g2 : L = Lb
                    · have HG2 := Lib.hid g2
                      have g2b : ((L : Int) == (Lb : Int)) = true := by rw [beq_iff_eq]; omega
                      clear g2
                      have hbf := betS_3 (o := ow) (b := best) (by rw [HLL.out, HLB.out, HG2.out])
                      cases hbb : before ow best
                      · have HBT := Lib.hid (hbf.trans hbb)
                        have HBBB := Lib.hid hbb
                        clear hbf hbb
                        go_wp2_with fail
                        go_at_call 33
                        refine (compareL_any Ao Ab L co Lb cb ow best _ HLL.out HLB.out (by omega) (by omega) HSO2.out HBES.out).mono ?_
                        rintro e w7 ⟨⟨v7, rfl, hv7⟩, hb7⟩
                        rw [HBBB.out] at hv7
                        have hv8 : ¬ v7 < 0 := by simpa using hv7
                        clear hv7
                        dsimp only
                        repeat ((with_reducible fail_if_success (show Code.wp _ (Code.region 21 _ _) _ _ _)); first | go_values | go_skip | go_guarded | go_step | go_upon)
                        have HBHI := Lib.hid (HBHI.out.upto9 hb7)
                        have HOLO := Lib.hid (HOLO.out.upto9 hb7)
                        have HB4X := Lib.hid (below_step HB4X.out hb7)
                        have HSO2 := Lib.hid (HSO2.out.next hb7)
                        have HMX := Lib.hid (HMX.out.next hb7)
                        have HSX := Lib.hid (HSX.out.next hb7)
                        have HKX := Lib.hid (HKX.out.next hb7)
                        have HRX := Lib.hid (HRX.out.next hb7)
                        have HSL := Lib.hid (HSL.out.next hb7)
                        have HS4 := Lib.hid (HS4.out.next hb7)
                        have HC29 := Lib.hid (cell_next HC29.out hb7)
                        clear hb7
                        have HX := Lib.hid (HFN.out (.inr HBT.out))
                        refine region_below (w7.heap.size) (by kernel_rfl) (by kernel_rfl) ?_
                        refine below_run (by kernel_rfl) (.bool false) (fun w' hw' => by kernel_rfl) ?_
                        refine below_run (by kernel_rfl) (.bool false) (fun w' hw' => by kernel_rfl) ?_
                        refine BigFrame.wpQuiet_skip (by kernel_rfl) ?_
                        refine BigFrame.wpQuiet_skip (by kernel_rfl) ?_
                        refine BigFrame.wpQuiet_skip (by kernel_rfl) ?_
                        refine BigFrame.wpQuiet_skip (by kernel_rfl) ?_
                        refine BigFrame.wpQuiet_skip (by kernel_rfl) ?_
                        refine BigFrame.wpQuiet_skip (by kernel_rfl) ?_
                        refine BigFrame.wpQuiet_skip (by kernel_rfl) ?_
                        refine BigFrame.wpQuiet_skip (by kernel_rfl) ?_
                        refine BigFrame.wpQuiet_skip (by kernel_rfl) ?_
                        refine below_run (by kernel_rfl) (.bool false) (fun w' hw' => by kernel_rfl) ?_
                        refine wpQuiet_nil ?_
                        intro W9 hW9
                        simp only [Act.put, List.setIfInBounds_toArray, List.set_cons_succ, List.set_cons_zero]
                        have HBHI := Lib.hid (HBHI.out.upto9 hW9)
                        have HOLO := Lib.hid (HOLO.out.upto9 hW9)
                        have HB4X := Lib.hid (below_step HB4X.out hW9)
                        clear hW9 HSHI HWDI
                        go_wp2
                        go_roundw
                        case rel => exact ⟨t + 1, by omega, by go_num, by rw [HX.out], ⟨Ab, cb, by rw [HX.out, ← HLB.out], by rw [HX.out]; exact HBHI.out⟩, HB4X.out⟩
                        case measure => simp [intOf]; omega
                      · have HBT := Lib.hid (hbf.trans hbb)
                        have HBBB := Lib.hid hbb
                        clear hbf hbb
                        go_wp2_with fail
                        go_at_call 33
                        refine (compareL_any Ao Ab L co Lb cb ow best _ HLL.out HLB.out (by omega) (by omega) HSO2.out HBES.out).mono ?_
                        rintro e w7 ⟨⟨v7, rfl, hv7⟩, hb7⟩
                        rw [HBBB.out] at hv7
                        have hv8 : v7 < 0 := by simpa using hv7
                        clear hv7
                        dsimp only
                        repeat ((with_reducible fail_if_success (show Code.wp _ (Code.region 21 _ _) _ _ _)); first | go_values | go_skip | go_guarded | go_step | go_upon)
                        have HBHI := Lib.hid (HBHI.out.upto9 hb7)
                        have HOLO := Lib.hid (HOLO.out.upto9 hb7)
                        have HB4X := Lib.hid (below_step HB4X.out hb7)
                        have HSO2 := Lib.hid (HSO2.out.next hb7)
                        have HMX := Lib.hid (HMX.out.next hb7)
                        have HSX := Lib.hid (HSX.out.next hb7)
                        have HKX := Lib.hid (HKX.out.next hb7)
                        have HRX := Lib.hid (HRX.out.next hb7)
                        have HSL := Lib.hid (HSL.out.next hb7)
                        have HS4 := Lib.hid (HS4.out.next hb7)
                        have HC29 := Lib.hid (cell_next HC29.out hb7)
                        clear hb7
                        by_cases hmw : lw ≤ m
                        · have qm := decide_eq_true hmw
                          have HX := Lib.hid (HFY.out hmw HBT.out)
                          clear hmw
                          refine region_below (w7.heap.size) (by kernel_rfl) (by kernel_rfl) ?_
                          refine below_run (by kernel_rfl) (.bool true) (fun w' hw' => by kernel_rfl) ?_
                          refine below_run (by kernel_rfl) (.bool true) (fun w' hw' => by kernel_rfl) ?_
                          refine below_run (by kernel_rfl) (.agg (fcV f (.slice A n c)).toArray) (fun w' hw' => exec_load_row 35 (.tmp 4) rfl (w.heap.size) (by kernel_rfl) 35 (fcV f (.slice A n c)).toArray _ _ (HKX.out.next hw') Tryz.underlying35 rfl (HZ.out)) ?_
                          refine below_run (by kernel_rfl) (.pointer (some ⟨bS, 29, none⟩)) (fun w' hw' => by kernel_rfl) ?_
                          refine below_run (by kernel_rfl) (.slice (some ⟨g, 0, none⟩) N N) (fun w' hw' => exec_load1 54 (.tmp 96) rfl ⟨bS, 29, none⟩ (by kernel_rfl) (.slice (some ⟨g, 0, none⟩) N N) (cell_next HC29.out hw') _ Tryz.underlying54 rfl) ?_
                          refine below_run (by kernel_rfl) (.slice B k d) (fun w' hw' => by kernel_rfl) ?_
                          refine below_run (by kernel_rfl) (.slice Ao L co) (fun w' hw' => by kernel_rfl) ?_
                          refine below_call (by kernel_rfl) 35 #[.slice (some ⟨g, 0, none⟩) N N, .slice B k d, .slice Ao L co] (.string ⟨jt.toArray⟩) (fun w' => by kernel_rfl) (fun w' hw' => (HSHI.out w' (HRX.out.next hw') (HSL.out.next hw') (HSO2.out.next hw')).mono fun e w1 ⟨he, hb1⟩ => ⟨he, below_step hw' hb1⟩) ?_
                          refine below_call (by kernel_rfl) 34 #[.agg (fcV f (.slice A n c)).toArray, .string ⟨jt.toArray⟩] (.int .i64 lw) (fun w' => by kernel_rfl) (fun w' hw' => (HWDI.out w' (HSX.out.next hw')).mono fun e w1 ⟨he, hb1⟩ => ⟨he, below_step hw' hb1⟩) ?_
                          refine below_run (by kernel_rfl) (.int .i64 m) (fun w' hw' => by kernel_rfl) ?_
                          refine below_run (by kernel_rfl) (.bool true) (fun w' hw' => Eq.trans (show (execOp _ _).run _ w' = .ok (.value (.bool (decide (lw ≤ m)))) w' by kernel_rfl) (by rw [qm])) ?_
                          refine below_run (by kernel_rfl) (.bool true) (fun w' hw' => by kernel_rfl) ?_
                          refine wpQuiet_nil ?_
                          intro W9 hW9
                          simp only [Act.put, List.setIfInBounds_toArray, List.set_cons_succ, List.set_cons_zero]
                          have HBHI := Lib.hid (HBHI.out.upto9 hW9)
                          have HOLO := Lib.hid (HOLO.out.upto9 hW9)
                          have HB4X := Lib.hid (below_step HB4X.out hW9)
                          clear hW9 HSHI HWDI
                          go_wp2
                          go_roundw
                          case rel => exact ⟨t + 1, by omega, by go_num, by rw [HX.out], ⟨Ao, co, by rw [HX.out, ← HLL.out], by rw [HX.out]; exact HOLO.out⟩, HB4X.out⟩
                          case measure => simp [intOf]; omega
                        · have qm := decide_eq_false hmw
                          have HX := Lib.hid (HFN.out (.inl (by omega)))
                          clear hmw
                          refine region_below (w7.heap.size) (by kernel_rfl) (by kernel_rfl) ?_
                          refine below_run (by kernel_rfl) (.bool true) (fun w' hw' => by kernel_rfl) ?_
                          refine below_run (by kernel_rfl) (.bool true) (fun w' hw' => by kernel_rfl) ?_
                          refine below_run (by kernel_rfl) (.agg (fcV f (.slice A n c)).toArray) (fun w' hw' => exec_load_row 35 (.tmp 4) rfl (w.heap.size) (by kernel_rfl) 35 (fcV f (.slice A n c)).toArray _ _ (HKX.out.next hw') Tryz.underlying35 rfl (HZ.out)) ?_
                          refine below_run (by kernel_rfl) (.pointer (some ⟨bS, 29, none⟩)) (fun w' hw' => by kernel_rfl) ?_
                          refine below_run (by kernel_rfl) (.slice (some ⟨g, 0, none⟩) N N) (fun w' hw' => exec_load1 54 (.tmp 96) rfl ⟨bS, 29, none⟩ (by kernel_rfl) (.slice (some ⟨g, 0, none⟩) N N) (cell_next HC29.out hw') _ Tryz.underlying54 rfl) ?_
                          refine below_run (by kernel_rfl) (.slice B k d) (fun w' hw' => by kernel_rfl) ?_
                          refine below_run (by kernel_rfl) (.slice Ao L co) (fun w' hw' => by kernel_rfl) ?_
                          refine below_call (by kernel_rfl) 35 #[.slice (some ⟨g, 0, none⟩) N N, .slice B k d, .slice Ao L co] (.string ⟨jt.toArray⟩) (fun w' => by kernel_rfl) (fun w' hw' => (HSHI.out w' (HRX.out.next hw') (HSL.out.next hw') (HSO2.out.next hw')).mono fun e w1 ⟨he, hb1⟩ => ⟨he, below_step hw' hb1⟩) ?_
                          refine below_call (by kernel_rfl) 34 #[.agg (fcV f (.slice A n c)).toArray, .string ⟨jt.toArray⟩] (.int .i64 lw) (fun w' => by kernel_rfl) (fun w' hw' => (HWDI.out w' (HSX.out.next hw')).mono fun e w1 ⟨he, hb1⟩ => ⟨he, below_step hw' hb1⟩) ?_
                          refine below_run (by kernel_rfl) (.int .i64 m) (fun w' hw' => by kernel_rfl) ?_
                          refine below_run (by kernel_rfl) (.bool false) (fun w' hw' => Eq.trans (show (execOp _ _).run _ w' = .ok (.value (.bool (decide (lw ≤ m)))) w' by kernel_rfl) (by rw [qm])) ?_
                          refine below_run (by kernel_rfl) (.bool false) (fun w' hw' => by kernel_rfl) ?_
                          refine wpQuiet_nil ?_
                          intro W9 hW9
                          simp only [Act.put, List.setIfInBounds_toArray, List.set_cons_succ, List.set_cons_zero]
                          have HBHI := Lib.hid (HBHI.out.upto9 hW9)
                          have HOLO := Lib.hid (HOLO.out.upto9 hW9)
                          have HB4X := Lib.hid (below_step HB4X.out hW9)
                          clear hW9 HSHI HWDI
                          go_wp2
                          go_roundw
                          case rel => exact ⟨t + 1, by omega, by go_num, by rw [HX.out], ⟨Ab, cb, by rw [HX.out, ← HLB.out], by rw [HX.out]; exact HBHI.out⟩, HB4X.out⟩
                          case measure => simp [intOf]; omega
                    · have g2b : ((L : Int) == (Lb : Int)) = false := by rw [beq_eq_false_iff_ne]; omega
                      have HBT := Lib.hid (betS_4 (o := ow) (b := best) (by rw [HLL.out, HLB.out]; omega) (by rw [HLL.out, HLB.out]; exact g2))
                      repeat ((with_reducible fail_if_success (show Code.wp _ (Code.region 21 _ _) _ _ _)); first | go_values | go_skip | go_guarded | go_step | go_upon)
                      have HX := Lib.hid (HFN.out (.inr HBT.out))
                      refine region_below (wr.heap.size) (by kernel_rfl) (by kernel_rfl) ?_
                      refine below_run (by kernel_rfl) (.bool false) (fun w' hw' => by kernel_rfl) ?_
                      refine below_run (by kernel_rfl) (.bool false) (fun w' hw' => by kernel_rfl) ?_
                      refine BigFrame.wpQuiet_skip (by kernel_rfl) ?_
                      refine BigFrame.wpQuiet_skip (by kernel_rfl) ?_
                      refine BigFrame.wpQuiet_skip (by kernel_rfl) ?_
                      refine BigFrame.wpQuiet_skip (by kernel_rfl) ?_
                      refine BigFrame.wpQuiet_skip (by kernel_rfl) ?_
                      refine BigFrame.wpQuiet_skip (by kernel_rfl) ?_
                      refine BigFrame.wpQuiet_skip (by kernel_rfl) ?_
                      refine BigFrame.wpQuiet_skip (by kernel_rfl) ?_
                      refine BigFrame.wpQuiet_skip (by kernel_rfl) ?_
                      refine below_run (by kernel_rfl) (.bool false) (fun w' hw' => by kernel_rfl) ?_
                      refine wpQuiet_nil ?_
                      intro W9 hW9
                      simp only [Act.put, List.setIfInBounds_toArray, List.set_cons_succ, List.set_cons_zero]
                      have HBHI := Lib.hid (HBHI.out.upto9 hW9)
                      have HOLO := Lib.hid (HOLO.out.upto9 hW9)
                      have HB4X := Lib.hid (below_step HB4X.out hW9)
                      clear hW9 HSHI HWDI
                      go_wp2
                      go_roundw
                      case rel => exact ⟨t + 1, by omega, by go_num, by rw [HX.out], ⟨Ab, cb, by rw [HX.out, ← HLB.out], by rw [HX.out]; exact HBHI.out⟩, HB4X.out⟩
                      case measure => simp [intOf]; omega
          · obtain rfl : t = P := by omega
            have hnl : ¬ (t : Int) < (t : Int) := by omega
            have HBF := Lib.hid (HBE.out.low9 HB4.out.size)
            have HBG := Lib.hid (below_step HB4.out HBL.out)
            clear HBE HBL
            generalize fewS f ps ws m t = st at *
            obtain ⟨best, found⟩ := st
            dsimp only at HBF hbl0 HR9 HC4 ⊢
            cases found
            · have HO := Lib.hid (HC4.out.trans (by rfl) : fsC f (bs s) ps m = 6)
              have HO2 := Lib.hid (fsR_no HO.out (by decide))
              go_wp2
              go_ret2
              exact ⟨none, 0, by rw [HO.out, HO2.out] <;> rfl, HBG.out, by rw [HO2.out]; exact OwnS.nil⟩
            · have HO := Lib.hid (HC4.out.trans (by rfl) : fsC f (bs s) ps m = 0)
              have HO2 := Lib.hid (HR9.out HO.out)
              go_wp2
              go_ret2
              exact ⟨Ab, cb, by rw [HO.out, HO2.out] <;> rfl, HBG.out, by rw [HO2.out]; exact HBF.out⟩
end Go.Proofs.YtnlnjpdnhdmndaaGreatDoor
