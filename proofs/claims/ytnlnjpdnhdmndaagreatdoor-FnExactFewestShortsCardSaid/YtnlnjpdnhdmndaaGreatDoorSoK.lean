/- Contract: the fewest shorts, by the reference. -/
import Derived.Test.YtnlnjpdnhdmndaaGreatDoorSoJ
import Derived.Test.YtnlnjpdnhdmndaaGreatDoorTabB
import Derived.BigRegion

namespace Go.Proofs.YtnlnjpdnhdmndaaGreatDoor
open Go Go.RowKit
set_option linter.unusedVariables false
set_option linter.unusedSimpArgs false

theorem OwnS.upto9 {w w' : World} {lo : Nat} {A : Option Addr} {xs : List Int} (h : OwnS w lo w.heap.size A xs) (hb : Below w.heap.size w w') : OwnS w' lo w'.heap.size A xs := fun hn => by
  obtain ⟨g, cs, e, h1, h2, h3⟩ := h hn
  have := hb.size
  exact ⟨g, cs, e, h1, by omega, h3.next hb⟩
theorem OwnS.low9 {w : World} {lo lo' hi : Nat} {A : Option Addr} {xs : List Int} (h : OwnS w lo hi A xs) (hl : lo' ≤ lo) : OwnS w lo' hi A xs := fun hn => by
  obtain ⟨g, cs, e, h1, h2, h3⟩ := h hn
  exact ⟨g, cs, e, Nat.le_trans hl h1, h2, h3⟩
theorem pow10S {n : Nat} (h : n ≤ 10) : 1 ≤ 2 ^ n ∧ 2 ^ n ≤ 1024 := ⟨Nat.one_le_two_pow, Nat.pow_le_pow_right (n := 2) (by decide) h⟩
theorem exec_shlS {o : Oper} {a : Act} {w : World} (x y : Operand) (ho : o.op = .binOp .shl 3 x y 57) (n p : Nat) (hx : a.eval x = .int .i64 1) (hy : a.eval y = .int .u64 (n : Int)) (hn : n ≤ 60) (hp : p = 2 ^ n) (hpb : p ≤ 1048576) :
    (execOp a.eval o).run Tryz.prog w = .ok (.value (.int .i64 (p : Int))) w := by
  have hneg : ¬ (n : Int) < 0 := by omega
  have e : ((2 ^ n : Nat) : Int) = 2 ^ n := by push_cast; rfl
  have e3 : IntKind.i64.wrap (2 ^ n) = (p : Int) := by rw [← e, ← hp]; exact IntWalk.i64_in _ (by omega)
  unfold execOp
  simp only [ho, hx, hy]
  go_simp
theorem exec_shlI {o : Oper} {a : Act} {w : World} (x y : Operand) (ho : o.op = .binOp .shl 3 x y 3) (n p : Nat) (hx : a.eval x = .int .i64 1) (hy : a.eval y = .int .i64 (n : Int)) (hn : n ≤ 60) (hp : p = 2 ^ n) (hpb : p ≤ 1048576) :
    (execOp a.eval o).run Tryz.prog w = .ok (.value (.int .i64 (p : Int))) w := by
  have hneg : ¬ (n : Int) < 0 := by omega
  have e : ((2 ^ n : Nat) : Int) = 2 ^ n := by push_cast; rfl
  have e3 : IntKind.i64.wrap (2 ^ n) = (p : Int) := by rw [← e, ← hp]; exact IntWalk.i64_in _ (by omega)
  unfold execOp
  simp only [ho, hx, hy]
  go_simp
theorem exec_shrS {o : Oper} {a : Act} {w : World} (x y : Operand) (ho : o.op = .binOp .shr 3 x y 57) (s n q : Nat) (hx : a.eval x = .int .i64 (s : Int)) (hy : a.eval y = .int .u64 (n : Int)) (hn : n ≤ 60) (hq : q = s / 2 ^ n) :
    (execOp a.eval o).run Tryz.prog w = .ok (.value (.int .i64 (q : Int))) w := by
  have hw : (s : Int).fdiv (2 ^ (min (n : Int).toNat IntKind.i64.bits)) = (q : Int) := by
    have e : min (n : Int).toNat IntKind.i64.bits = n := by show min (n : Int).toNat 64 = n; omega
    rw [e, Int.fdiv_eq_ediv_of_nonneg _ (by exact Int.le_of_lt (Int.pow_pos (by decide))), hq]
    push_cast; rfl
  have hneg : ¬ (n : Int) < 0 := by omega
  unfold execOp
  simp only [ho, hx, hy]
  go_simp
theorem exec_shrI {o : Oper} {a : Act} {w : World} (x y : Operand) (ho : o.op = .binOp .shr 3 x y 3) (s n q : Nat) (hx : a.eval x = .int .i64 (s : Int)) (hy : a.eval y = .int .i64 (n : Int)) (hn : n ≤ 60) (hq : q = s / 2 ^ n) :
    (execOp a.eval o).run Tryz.prog w = .ok (.value (.int .i64 (q : Int))) w := by
  have hw : (s : Int).fdiv (2 ^ (min (n : Int).toNat IntKind.i64.bits)) = (q : Int) := by
    have e : min (n : Int).toNat IntKind.i64.bits = n := by show min (n : Int).toNat 64 = n; omega
    rw [e, Int.fdiv_eq_ediv_of_nonneg _ (by exact Int.le_of_lt (Int.pow_pos (by decide))), hq]
    push_cast; rfl
  have hneg : ¬ (n : Int) < 0 := by omega
  unfold execOp
  simp only [ho, hx, hy]
  go_simp
theorem bit_eqS (s j : Nat) : (((s / 2 ^ j % 2 : Nat) : Int) == 1) = s.testBit j := by
  rw [Nat.testBit_eq_decide_div_mod_eq, Bool.eq_iff_iff, beq_iff_eq, decide_eq_true_iff]
  omega
theorem fewS_no {f : Fc} {ps : List Sr} {ws : List (List UInt8)} {m : Int} {s : Nat} (h : ¬ lineS f ps ws (ownS' ps ws s) ≤ m ∨ betS (ownS' ps ws s) (fewS f ps ws m s) = false) : fewS f ps ws m (s + 1) = fewS f ps ws m s := by
  rw [fewS, if_neg]
  rintro ⟨h1, h2⟩
  rcases h with h | h
  · exact h h1
  · rw [h] at h2; cases h2
theorem fewS_yes {f : Fc} {ps : List Sr} {ws : List (List UInt8)} {m : Int} {s : Nat} (h1 : lineS f ps ws (ownS' ps ws s) ≤ m) (h2 : betS (ownS' ps ws s) (fewS f ps ws m s) = true) : fewS f ps ws m (s + 1) = ⟨ownS' ps ws s, true⟩ := by
  rw [fewS, if_pos ⟨h1, h2⟩]
theorem betS_1 {o b : List Int} : betS o ⟨b, false⟩ = true := rfl
theorem betS_2 {o b : List Int} (h : o.length < b.length) : betS o ⟨b, true⟩ = true := by unfold betS; rw [decide_eq_true h]; rfl
theorem betS_3 {o b : List Int} (h : o.length = b.length) : betS o ⟨b, true⟩ = before o b := by unfold betS; simp [h]
theorem betS_4 {o b : List Int} (h : ¬ o.length < b.length) (h2 : ¬ o.length = b.length) : betS o ⟨b, true⟩ = false := by unfold betS; simp [h, h2]
theorem fsC_1 {f : Fc} {l : List UInt8} {ps : List Sr} {m : Int} (h : (validF f && vText l && srOk ps) = false) : fsC f l ps m = 1 := by unfold fsC; rw [h]; rfl
theorem fsC_2 {f : Fc} {l : List UInt8} {ps : List Sr} {m : Int} (h : (validF f && vText l && srOk ps) = true) (hm : inB 0 4000 m = false) : fsC f l ps m = 2 := by unfold fsC; rw [h, hm]; rfl
theorem fsC_3 {f : Fc} {l : List UInt8} {ps : List Sr} {m : Int} (h : (validF f && vText l && srOk ps) = true) (hm : inB 0 4000 m = true) (hq : 10 < (whichS ps (words l)).length) : fsC f l ps m = 3 := by unfold fsC; rw [h, hm, if_pos rfl, if_pos rfl, if_pos hq]
theorem fsC_4 {f : Fc} {l : List UInt8} {ps : List Sr} {m : Int} (h : (validF f && vText l && srOk ps) = true) (hm : inB 0 4000 m = true) (hq : ¬ 10 < (whichS ps (words l)).length) : fsC f l ps m = if (fewS f ps (words l) m (2 ^ (whichS ps (words l)).length)).found then 0 else 6 := by unfold fsC; rw [h, hm, if_pos rfl, if_pos rfl, if_neg hq]
theorem fsR_no {f : Fc} {l : List UInt8} {ps : List Sr} {m : Int} {c : Int} (h : fsC f l ps m = c) (hc : c ≠ 0) : fsR f l ps m = [] := by unfold fsR; rw [if_neg (by rw [h]; exact hc)]
theorem fsR_yes {f : Fc} {l : List UInt8} {ps : List Sr} {m : Int} (h : fsC f l ps m = 0) : fsR f l ps m = (fewS f ps (words l) m (2 ^ (whichS ps (words l)).length)).best := by unfold fsR; rw [if_pos h]
attribute [local irreducible] wpQuiet in
set_option maxHeartbeats 4000000 in
set_option maxRecDepth 100000 in
theorem few_specS (f : Fc) (A B : Option Addr) (n c k d : Nat) (s : ByteArray) (ps : List Sr) (m : Int) (w : World) (hf : FcT f) (hn : f.pairs.length = n) (hm : n ≤ 1048576) (hs : s.size ≤ 1048576) (hk : ps.length = k) (hkm : k ≤ 1048576) (hb : SrB ps 1048576) (h : SlP w A f.pairs) (hr : SlR w B ps) :
    Calls Tryz.prog 6 #[.agg (fcV f (.slice A n c)).toArray, .string s, .slice B k d, .int .i64 m] w (ListOut w (fsR f (bs s) ps m) (fsC f (bs s) ps m)) := by
  have hB := below_one w (.cells (fcV f (.slice A n c)).toArray 35)
  have hkk := Blk.new w 35 (fcV f (.slice A n c))
  have hfa : FcAt (w.alloc (.cells (fcV f (.slice A n c)).toArray 35)) w.heap.size f n := ⟨A, c, hkk, h.next hB⟩
  have HF := Lib.hid hf
  have HN := Lib.hid hn
  have HA := Lib.hid hfa
  have HK := Lib.hid hk
  have HSB := Lib.hid hb
  have HR := Lib.hid (hr.next hB)
  have HBB := Lib.hid hB
  clear hf hn hfa h hkk hk hb hr hB
  cases hv : validF f
  · skip
    have HV := Lib.hid hv
    have HO := Lib.hid (fsC_1 (m := m) (show (validF f && vText (bs s) && srOk ps) = false by rw [hv]; rfl))
    have HO2 := Lib.hid (fsR_no HO.out (by decide))
    clear hv
    go_enter Tryz.func6, Tryz.ntmps6
    go_wp2_with fail
    go_at_call 19
    refine (face_spec f n w.heap.size _ HF.out HN.out hm HA.out).mono ?_
    rintro e w1 ⟨he, hb1⟩
    rw [HV.out] at he
    subst he
    have HB1 := Lib.hid (below_step HBB.out hb1)
    have HA1 := Lib.hid (HA.out.next hb1)
    have HR1 := Lib.hid (HR.out.next hb1)
    clear hb1
    dsimp only
    go_wp2
    go_ret2
    exact ⟨_, _, by rw [HO.out, HO2.out] <;> rfl, below_step HB1.out (below_one _ _), by rw [HO2.out]; exact OwnS.nil⟩
  · cases hq : (vText (bs s) && srOk ps)
    · skip
      have HV := Lib.hid hv
      have HQ := Lib.hid (show (if (vText (bs s) && srOk ps) = true then (0 : Int) else 1) = 1 by rw [hq]; rfl)
      have HO := Lib.hid (fsC_1 (m := m) (show (validF f && vText (bs s) && srOk ps) = false by rw [hv, Bool.and_assoc, hq]; rfl))
      have HO2 := Lib.hid (fsR_no HO.out (by decide))
      clear hv hq
      go_enter Tryz.func6, Tryz.ntmps6
      go_wp2_with fail
      go_at_call 19
      refine (face_spec f n w.heap.size _ HF.out HN.out hm HA.out).mono ?_
      rintro e w1 ⟨he, hb1⟩
      rw [HV.out] at he
      subst he
      have HB1 := Lib.hid (below_step HBB.out hb1)
      have HA1 := Lib.hid (HA.out.next hb1)
      have HR1 := Lib.hid (HR.out.next hb1)
      clear hb1
      dsimp only
      go_wp2_with fail
      go_at_call 20
      refine (asked_specS s B d ps k _ hs HK.out hkm HSB.out HR1.out).mono ?_
      rintro e w2 ⟨he, hb2⟩
      rw [HQ.out] at he
      subst he
      have HB2 := Lib.hid (below_step HB1.out hb2)
      have HA2 := Lib.hid (HA1.out.next hb2)
      have HR2 := Lib.hid (HR1.out.next hb2)
      clear hb2
      dsimp only
      go_wp2
      go_ret2
      exact ⟨_, _, by rw [HO.out, HO2.out] <;> rfl, below_step HB2.out (below_one _ _), by rw [HO2.out]; exact OwnS.nil⟩
    · have HVQ := Lib.hid (show (validF f && vText (bs s) && srOk ps) = true by rw [hv, Bool.and_assoc, hq]; rfl)
      have HV := Lib.hid hv
      have HQ := Lib.hid (show (if (vText (bs s) && srOk ps) = true then (0 : Int) else 1) = 0 by rw [hq]; rfl)
      rw [Bool.and_eq_true] at hq
      obtain ⟨ht, hso⟩ := hq
      cases hin : inB 0 4000 m
      · skip
        have HIN := Lib.hid hin
        have HO := Lib.hid (fsC_2 HVQ.out hin)
        have HO2 := Lib.hid (fsR_no HO.out (by decide))
        clear hv ht hso hin
        go_enter Tryz.func6, Tryz.ntmps6
        go_wp2_with fail
        go_at_call 19
        refine (face_spec f n w.heap.size _ HF.out HN.out hm HA.out).mono ?_
        rintro e w1 ⟨he, hb1⟩
        rw [HV.out] at he
        subst he
        have HB1 := Lib.hid (below_step HBB.out hb1)
        have HA1 := Lib.hid (HA.out.next hb1)
        have HR1 := Lib.hid (HR.out.next hb1)
        clear hb1
        dsimp only
        go_wp2_with fail
        go_at_call 20
        refine (asked_specS s B d ps k _ hs HK.out hkm HSB.out HR1.out).mono ?_
        rintro e w2 ⟨he, hb2⟩
        rw [HQ.out] at he
        subst he
        have HB2 := Lib.hid (below_step HB1.out hb2)
        have HA2 := Lib.hid (HA1.out.next hb2)
        have HR2 := Lib.hid (HR1.out.next hb2)
        clear hb2
        dsimp only
        go_wp2_with fail
        go_at_call 21
        refine (room_spec m _).mono ?_
        rintro e _ ⟨he, rfl⟩
        rw [HIN.out] at he
        subst he
        dsimp only
        go_wp2
        go_ret2
        exact ⟨_, _, by rw [HO.out, HO2.out] <;> rfl, below_step HB2.out (below_one _ _), by rw [HO2.out]; exact OwnS.nil⟩
      · have HIN := Lib.hid hin
        have HVV := Lib.hid (validF_iff.1 hv)
        have HW0 := Lib.hid (ws_words ht)
        have HJ0 := Lib.hid (show (joinW (words (bs s))).length ≤ 60 by rw [joinW_words]; exact (vText_iff.1 ht).2)
        have hcnt := words_count ht
        have HSV := Lib.hid (srOk_V hso)
        clear hv ht hso hin
        obtain ⟨ws, hws⟩ : ∃ ws, ws = words (bs s) := ⟨_, rfl⟩
        rw [← hws] at HW0 HJ0 hcnt
        have HWS := Lib.hid hws
        obtain ⟨al, hal⟩ : ∃ al, al = whichS ps ws := ⟨_, rfl⟩
        have HAL := Lib.hid hal
        have hqc : al.length ≤ 60 := by rw [hal]; exact Nat.le_trans (which_len ps ws) hcnt
        obtain ⟨q, hq⟩ : ∃ q, q = al.length := ⟨_, rfl⟩
        obtain ⟨N, hNN⟩ : ∃ N, N = ws.length := ⟨_, rfl⟩
        have HQL := Lib.hid hq.symm
        have HNL := Lib.hid hNN.symm
        rw [← hq] at hqc
        rw [← hNN] at hcnt
        have HQW := Lib.hid (show q = (whichS ps (words (bs s))).length by rw [hq, hal, hws])
        clear hws hal hq hNN
        by_cases h10 : (10 : Int) < (q : Int)
        · skip
          have HO := Lib.hid (fsC_3 HVQ.out HIN.out (by rw [← HQW.out]; omega))
          have HO2 := Lib.hid (fsR_no HO.out (by decide))
          go_enter Tryz.func6, Tryz.ntmps6
          go_wp2_with fail
          go_at_call 19
          refine (face_spec f n w.heap.size _ HF.out HN.out hm HA.out).mono ?_
          rintro e w1 ⟨he, hb1⟩
          rw [HV.out] at he
          subst he
          have HB1 := Lib.hid (below_step HBB.out hb1)
          have HA1 := Lib.hid (HA.out.next hb1)
          have HR1 := Lib.hid (HR.out.next hb1)
          clear hb1
          dsimp only
          go_wp2_with fail
          go_at_call 20
          refine (asked_specS s B d ps k _ hs HK.out hkm HSB.out HR1.out).mono ?_
          rintro e w2 ⟨he, hb2⟩
          rw [HQ.out] at he
          subst he
          have HB2 := Lib.hid (below_step HB1.out hb2)
          have HA2 := Lib.hid (HA1.out.next hb2)
          have HR2 := Lib.hid (HR1.out.next hb2)
          clear hb2
          dsimp only
          go_wp2_with fail
          go_at_call 21
          refine (room_spec m _).mono ?_
          rintro e _ ⟨he, rfl⟩
          rw [HIN.out] at he
          subst he
          dsimp only
          go_wp2_with fail
          go_at_call 22
          refine (words_specS s _ hs).mono ?_
          rintro e w3 ⟨bw, cw, rfl, hb3, hsl⟩
          rw [← HWS.out] at hsl ⊢
          rw [HNL.out]
          have HB3 := Lib.hid (below_step HB2.out hb3)
          have HA3 := Lib.hid (HA2.out.next hb3)
          have HR3 := Lib.hid (HR2.out.next hb3)
          have HSL := Lib.hid hsl
          clear hb3 hsl
          dsimp only
          go_wp2_with fail
          go_at_call 23
          refine (which_spec B (some bw) d cw ps ws k N _ HK.out hkm HR3.out HNL.out (by omega) HSL.out).mono ?_
          rintro e w4 ⟨v, rfl, hown, hb4⟩
          obtain ⟨A4, c4, rfl, hl4, _, hs4⟩ := SlE_own hown
          rw [← HAL.out, HQL.out]
          have hs4 : SlE i64 w4 A4 al := by rw [HAL.out]; exact hs4
          have HB4 := Lib.hid (below_step HB3.out hb4)
          have HA4 := Lib.hid (HA3.out.next hb4)
          have HR4 := Lib.hid (HR3.out.next hb4)
          have HSL := Lib.hid (HSL.out.next hb4)
          have HS4 := Lib.hid hs4
          clear hb4 hs4 hown hl4
          dsimp only
          go_wp2
          go_ret2
          exact ⟨_, _, by rw [HO.out, HO2.out] <;> rfl, below_step HB4.out (below_one _ _), by rw [HO2.out]; exact OwnS.nil⟩
        · obtain ⟨P, hP⟩ : ∃ P, P = 2 ^ q := ⟨_, rfl⟩
          have hPb := pow10S (show q ≤ 10 by omega)
          rw [← hP] at hPb
          have HP := Lib.hid hP
          have HC4 := Lib.hid (show fsC f (bs s) ps m = if (fewS f ps ws m P).found then 0 else 6 by rw [fsC_4 HVQ.out HIN.out (by rw [← HQW.out]; omega), ← HQW.out, ← hP, ← HWS.out])
          have HR9 := Lib.hid (fun (g : fsC f (bs s) ps m = 0) => show fsR f (bs s) ps m = (fewS f ps ws m P).best by rw [fsR_yes g, ← HQW.out, ← hP, ← HWS.out])
          clear hP
          go_enter Tryz.func6, Tryz.ntmps6
          go_wp2_with fail
          go_at_call 19
          refine (face_spec f n w.heap.size _ HF.out HN.out hm HA.out).mono ?_
          rintro e w1 ⟨he, hb1⟩
          rw [HV.out] at he
          subst he
          have HB1 := Lib.hid (below_step HBB.out hb1)
          have HA1 := Lib.hid (HA.out.next hb1)
          have HR1 := Lib.hid (HR.out.next hb1)
          clear hb1
          dsimp only
          go_wp2_with fail
          go_at_call 20
          refine (asked_specS s B d ps k _ hs HK.out hkm HSB.out HR1.out).mono ?_
          rintro e w2 ⟨he, hb2⟩
          rw [HQ.out] at he
          subst he
          have HB2 := Lib.hid (below_step HB1.out hb2)
          have HA2 := Lib.hid (HA1.out.next hb2)
          have HR2 := Lib.hid (HR1.out.next hb2)
          clear hb2
          dsimp only
          go_wp2_with fail
          go_at_call 21
          refine (room_spec m _).mono ?_
          rintro e _ ⟨he, rfl⟩
          rw [HIN.out] at he
          subst he
          dsimp only
          go_wp2_with fail
          go_at_call 22
          refine (words_specS s _ hs).mono ?_
          rintro e w3 ⟨bw, cw, rfl, hb3, hsl⟩
          rw [← HWS.out] at hsl ⊢
          rw [HNL.out]
          have HB3 := Lib.hid (below_step HB2.out hb3)
          have HA3 := Lib.hid (HA2.out.next hb3)
          have HR3 := Lib.hid (HR2.out.next hb3)
          have HSL := Lib.hid hsl
          clear hb3 hsl
          dsimp only
          go_wp2_with fail
          go_at_call 23
          refine (which_spec B (some bw) d cw ps ws k N _ HK.out hkm HR3.out HNL.out (by omega) HSL.out).mono ?_
          rintro e w4 ⟨v, rfl, hown, hb4⟩
          obtain ⟨A4, c4, rfl, hl4, _, hs4⟩ := SlE_own hown
          rw [← HAL.out, HQL.out]
          have hs4 : SlE i64 w4 A4 al := by rw [HAL.out]; exact hs4
          have HB4 := Lib.hid (below_step HB3.out hb4)
          have HA4 := Lib.hid (HA3.out.next hb4)
          have HR4 := Lib.hid (HR3.out.next hb4)
          have HSL := Lib.hid (HSL.out.next hb4)
          have HS4 := Lib.hid hs4
          clear hb4 hs4 hown hl4
          dsimp only
          repeat ((with_reducible fail_if_success (show Code.wp _ (Code.loop _) _ _ _)); first | go_values | go_skip | go_guarded | go_step | go_upon)
          go_loopw [12, 13, 14] (fun v u i wr => ∃ t : Nat, t ≤ P ∧ i = .int .i64 t ∧ u = .bool (fewS f ps ws m t).found ∧ (∃ Ab cb, v = .slice Ab (fewS f ps ws m t).best.length cb ∧ OwnS wr w4.heap.size wr.heap.size Ab (fewS f ps ws m t).best) ∧ Below w4.heap.size w4 wr) (fun _ _ i _ => P - (intOf i).toNat)
          case atStart => exact ⟨0, by omega, rfl, rfl, ⟨_, _, rfl, OwnS.nil⟩, below_one _ _⟩
          case round =>
            obtain ⟨t, ht, rfl, rfl, ⟨Ab, cb, rfl, hbest⟩, hbel⟩ := hrel
            have HBE := Lib.hid hbest
            have HBL := Lib.hid hbel
            have hbl0 := fewS_len f ps ws m t
            rw [← HAL.out, HQL.out] at hbl0
            clear hbest hbel
            have e2 : IntKind.u64.wrap (q : Int) = (q : Int) := IntWalk.u64_in _ (by omega)
            repeat ((with_reducible fail_if_success (show wpList _ _ _ (⟨some 45, _, _, _, _, _⟩ :: _) _ _)); first | go_values | go_skip | go_guarded | go_step | go_upon)
            refine wpList_val (by kernel_rfl) (.int .u64 (q : Int)) _ (Eq.trans (show (execOp _ _).run _ wr = .ok (.value (.int .u64 (IntKind.u64.wrap (q : Int)))) wr by kernel_rfl) (by rw [e2])) ?_
            repeat ((with_reducible fail_if_success (show wpList _ _ _ (⟨some 46, _, _, _, _, _⟩ :: _) _ _)); first | go_values | go_skip | go_guarded | go_step | go_upon)
            refine wpList_val (by kernel_rfl) (.int .i64 (P : Int)) _ (exec_shlS (.const (.int .i64 1)) (.tmp 45) rfl q P (by kernel_rfl) (by kernel_rfl) (by omega) HP.out (by omega)) ?_
            clear e2
            by_cases hlt : t < P
            · skip
              have hlti : (t : Int) < (P : Int) := by omega
              have hown := own_empty wr wr.heap.size rfl wr.heap.size 2 (Nat.le_refl _) 1
              have hb0 := below_one wr (.cells #[] 2)
              repeat ((with_reducible fail_if_success (show wpList _ _ _ (⟨some 50, _, _, _, _, _⟩ :: _) _ _)); first | go_values | go_skip | go_guarded | go_step | go_upon)
              refine wpList_val (by kernel_rfl) (.slice (some ⟨wr.heap.size, 0, none⟩) 0 0) (wr.alloc (.cells #[] 2)) (by kernel_rfl) ?_
              repeat ((with_reducible fail_if_success (show Code.wp _ (Code.loop _) _ _ _)); first | go_values | go_skip | go_guarded | go_step | go_upon)
              rename World => wo
              go_loopw [15, 16] (fun v z wx => ∃ j : Nat, j ≤ q ∧ z = .int .i64 j ∧ wx.ownsRow wo.heap.size 2 1 v (pickS al t j).length ((pickS al t j).map i64) ∧ Below wo.heap.size wo wx) (fun _ z _ => q - (intOf z).toNat)
              case atStart => exact ⟨0, by omega, rfl, hown, hb0⟩
              case round =>
                obtain ⟨j, hj, rfl, hown2, hbx⟩ := hrel
                have hol := pickS_len al t j
                clear hown hb0
                have HBX := Lib.hid hbx
                by_cases hlj : j < q
                · skip
                  have HOW := Lib.hid hown2
                  have hszx := hbx.size
                  have hbx4 := below_step HBL.out hbx
                  obtain ⟨a4, ea4, ra4⟩ := (HS4.out.next hbx4).some j (by rw [HQL.out]; exact hlj)
                  subst ea4
                  have ca := ra4.atI64 j (by rw [HQL.out]; exact hlj)
                  clear hown2 hbx hbx4 ra4
                  have e2 : IntKind.u64.wrap (j : Int) = (j : Int) := IntWalk.u64_in _ (by omega)
                  obtain ⟨qq, hqq⟩ : ∃ qq, qq = t / 2 ^ j := ⟨_, rfl⟩
                  have HQQ := Lib.hid hqq
                  have hbe := bit_eqS t j
                  rw [← hqq] at hbe
                  clear hqq
                  obtain ⟨r, hr⟩ : ∃ r, r = qq % 2 := ⟨_, rfl⟩
                  rw [← hr] at hbe
                  have HR2 := Lib.hid (show Int.tmod (qq : Int) 2 = (r : Int) by rw [hr, Int.tmod_eq_emod_of_nonneg (by omega)]; omega)
                  have HBE2 := Lib.hid hbe
                  clear hr hbe
                  repeat ((with_reducible fail_if_success (show wpList _ _ _ (⟨some 59, _, _, _, _, _⟩ :: _) _ _)); first | go_values | go_skip | go_guarded | go_step | go_upon)
                  refine wpList_val (by kernel_rfl) (.int .u64 (j : Int)) _ (Eq.trans (show (execOp _ _).run _ wr = .ok (.value (.int .u64 (IntKind.u64.wrap (j : Int)))) wr by kernel_rfl) (by rw [e2])) ?_
                  repeat ((with_reducible fail_if_success (show wpList _ _ _ (⟨some 60, _, _, _, _, _⟩ :: _) _ _)); first | go_values | go_skip | go_guarded | go_step | go_upon)
                  refine wpList_val (by kernel_rfl) (.int .i64 (qq : Int)) _ (exec_shrS (.tmp 57) (.tmp 59) rfl t j qq (by kernel_rfl) (by kernel_rfl) (by omega) HQQ.out) ?_
                  repeat ((with_reducible fail_if_success (show wpList _ _ _ (⟨some 61, _, _, _, _, _⟩ :: _) _ _)); first | go_values | go_skip | go_guarded | go_step | go_upon)
                  refine wpList_val (by kernel_rfl) (.int .i64 (r : Int)) _ (exec_remS (.tmp 60) (.const (.int .i64 2)) rfl qq 2 (by kernel_rfl) (by kernel_rfl) (by decide) HR2.out) ?_
                  clear e2
                  cases htb : t.testBit j
                  · have hrb : ((r : Int) == 1) = false := by rw [HBE2.out]; exact htb
                    have HN9 := Lib.hid (show pickS al t (j + 1) = pickS al t j by rw [pickS, htb]; rfl)
                    clear htb
                    repeat (first | go_values | go_skip | go_guarded | go_step | go_upon)
                    go_roundw
                    case rel => exact ⟨j + 1, by omega, by go_num, by rw [HN9.out]; exact HOW.out, HBX.out⟩
                    case measure => simp [intOf]; omega
                  · have hrb : ((r : Int) == 1) = true := by rw [HBE2.out]; exact htb
                    have HN9 := Lib.hid (show pickS al t (j + 1) = pickS al t j ++ [rdI al j] by rw [pickS, htb, if_pos rfl])
                    clear htb
                    repeat ((with_reducible fail_if_success (show wpList _ _ _ (⟨some 69, _, _, _, _, _⟩ :: _) _ _)); first | go_values | go_skip | go_guarded | go_step | go_upon)
                    refine wpList_app1 rfl (.tmp 63) (.tmp 68) _ rfl elI wr wo.heap.size u15 (pickS al t j).length _ rfl HOW.out (.int .i64 (rdI al j)) _ rfl rfl rfl (by unfold maxLen; omega) (by omega) hszx ?_
                    intro v' w' ho' hg'
                    simp only [Act.put, List.setIfInBounds_toArray, List.set_cons_succ, List.set_cons_zero]
                    have HB9 := Lib.hid (below_own HBX.out HOW.out hg' (Nat.le_refl _) hszx)
                    clear hg' ca
                    repeat (first | go_values | go_skip | go_guarded | go_step | go_upon)
                    go_roundw
                    case rel =>
                      refine ⟨j + 1, by omega, by go_num, ?_, HB9.out⟩
                      rw [HN9.out, List.length_append, List.map_append]
                      exact ho'
                    case measure => simp [intOf]; omega
                · obtain rfl : j = q := by omega
                  obtain ⟨Ao, co, rfl, hlo, hoo⟩ := OwnS.of_own hown2
                  obtain ⟨ow, how⟩ : ∃ ow, ow = pickS al t j := ⟨_, rfl⟩
                  have HOE := Lib.hid (show ow = ownS' ps ws t by rw [how]; unfold ownS'; rw [← HAL.out, HQL.out])
                  rw [← how] at hoo hol ⊢
                  have HOA := Lib.hid (show AtV ps ws ow by rw [HOE.out]; exact ownS_at ps ws t)
                  clear how hlo hown2
                  obtain ⟨L, hL⟩ : ∃ L, L = ow.length := ⟨_, rfl⟩
                  rw [← hL] at hol ⊢
                  have HLL := Lib.hid hL.symm
                  clear hL
                  obtain ⟨lw, hlw⟩ : ∃ lw, lw = lineS f ps ws ow := ⟨_, rfl⟩
                  have HLW := Lib.hid hlw
                  have HAW := Lib.hid (atS_ws HSV.out HW0.out HJ0.out HOA.out (Nat.le_refl _))
                  have hsx := hoo.sl
                  have hzo4 := HBL.out.size
                  have hzox := hbx.size
                  have hbx4 := below_step HBL.out hbx
                  have HAX := Lib.hid (HA4.out.next hbx4)
                  have HRX := Lib.hid (HR4.out.next hbx4)
                  have HSX := Lib.hid (HSL.out.next hbx4)
                  have HOO := Lib.hid hoo
                  have HSO := Lib.hid hsx
                  have HBEX := Lib.hid (HBE.out.next hbx)
                  have HB4X := Lib.hid hbx4
                  clear hbx hbx4 hoo hsx HBE hlw HBX HBL
                  go_wp2_with fail
                  go_at_call 25
                  refine (at_spec B Ao bw d cw co ps ws ow k N L _ HK.out hkm HRX.out HNL.out hcnt HSX.out HLL.out (by omega) HSO.out HOA.out).mono ?_
                  rintro e w5 ⟨A5, c5, rfl, hs5, hb5⟩
                  have HAX := Lib.hid (HAX.out.next hb5)
                  have HOO := Lib.hid (HOO.out.upto9 hb5)
                  have HSO := Lib.hid (HSO.out.next hb5)
                  have HBEX := Lib.hid (HBEX.out.next hb5)
                  have HB4X := Lib.hid (below_step HB4X.out hb5)
                  have z5 := hb5.size
                  have HS5 := Lib.hid hs5
                  clear hb5 hs5
                  dsimp only
                  go_wp2_with fail
                  go_at_call 24
                  refine (line_specN f n w.heap.size A5 c5 (atS ps ws ow ow.length) N _ HF.out HVV.out HN.out hm HAW.out.1 HAX.out HS5.out (by rw [atS_length, HNL.out])).mono ?_
                  rintro e w6 ⟨he, hb6⟩
                  rw [show lineW f (joinW (atS ps ws ow ow.length)) = lw from HLW.out.symm] at he
                  subst he
                  have HOO := Lib.hid (HOO.out.upto9 hb6)
                  have HSO := Lib.hid (HSO.out.next hb6)
                  have HBEX := Lib.hid (HBEX.out.next hb6)
                  have HB4X := Lib.hid (below_step HB4X.out hb6)
                  have z6 := hb6.size
                  clear hb6 HS5 HAW
                  dsimp only
                  have HFN := Lib.hid (fun h => fewS_no (f := f) (ps := ps) (ws := ws) (m := m) (s := t) h)
                  have HFY := Lib.hid (fun h1 h2 => fewS_yes (f := f) (ps := ps) (ws := ws) (m := m) (s := t) h1 h2)
                  rw [← HOE.out, ← show lw = lineS f ps ws ow from HLW.out] at HFN HFY
                  have HOLO := Lib.hid (HOO.out.low9 (show w4.heap.size ≤ wo.heap.size by omega))
                  have HBHI := Lib.hid (show OwnS w6 w4.heap.size w6.heap.size Ab (fewS f ps ws m t).best from fun hn => by
                    obtain ⟨g, cs, e, h1, h2, h3⟩ := HBEX.out hn
                    exact ⟨g, cs, e, h1, by omega, h3⟩)
                  have HBES := Lib.hid HBEX.out.sl
                  clear HBEX HOO
                  generalize fewS f ps ws m t = st at *
                  obtain ⟨best, found⟩ := st
                  dsimp only at hbl0 HFN HFY HBHI HBES ⊢
                  by_cases hmw : m < lw
                  · have HX := Lib.hid (HFN.out (.inl (by omega)))
                    go_wp2
                    go_roundw
                    case rel => exact ⟨t + 1, by omega, by go_num, by rw [HX.out], ⟨Ab, cb, by rw [HX.out], by rw [HX.out]; exact HBHI.out⟩, HB4X.out⟩
                    case measure => simp [intOf]; omega
                  · cases found
                    · have HX := Lib.hid (HFY.out (by omega) betS_1)
                      go_wp2
                      go_roundw
                      case rel => exact ⟨t + 1, by omega, by go_num, by rw [HX.out], ⟨Ao, co, by rw [HX.out, ← HLL.out], by rw [HX.out]; exact HOLO.out⟩, HB4X.out⟩
                      case measure => simp [intOf]; omega
                    · obtain ⟨Lb, hLb⟩ : ∃ Lb, Lb = best.length := ⟨_, rfl⟩
                      have HLB := Lib.hid hLb.symm
                      rw [← hLb] at hbl0 ⊢
                      clear hLb
                      by_cases g1 : (L : Int) < (Lb : Int)
                      · have HX := Lib.hid (HFY.out (by omega) (betS_2 (by rw [HLL.out, HLB.out]; omega)))
                        go_wp2
                        go_roundw
                        case rel => exact ⟨t + 1, by omega, by go_num, by rw [HX.out], ⟨Ao, co, by rw [HX.out, ← HLL.out], by rw [HX.out]; exact HOLO.out⟩, HB4X.out⟩
                        case measure => simp [intOf]; omega
                      · by_cases g2 : L = Lb
                        · have HG2 := Lib.hid g2
                          have g2b : ((L : Int) == (Lb : Int)) = true := by rw [beq_iff_eq]; omega
                          clear g2
                          have hbf := betS_3 (o := ow) (b := best) (by rw [HLL.out, HLB.out, HG2.out])
                          cases hbb : before ow best
                          · have HX := Lib.hid (HFN.out (.inr (hbf.trans hbb)))
                            have HBBB := Lib.hid hbb
                            clear hbf hbb
                            go_wp2_with fail
                            go_at_call 26
                            refine (before_spec Ao Ab L co Lb cb ow best _ HLL.out HLB.out (by omega) (by omega) HSO.out HBES.out).mono ?_
                            rintro e w7 ⟨he, hb7⟩
                            rw [HBBB.out] at he
                            subst he
                            dsimp only
                            go_wp2
                            go_roundw
                            case rel => exact ⟨t + 1, by omega, by go_num, by rw [HX.out], ⟨Ab, cb, by rw [HX.out, ← HLB.out], by rw [HX.out]; exact HBHI.out.upto9 hb7⟩, below_step HB4X.out hb7⟩
                            case measure => simp [intOf]; omega
                          · have HX := Lib.hid (HFY.out (by omega) (hbf.trans hbb))
                            have HBBB := Lib.hid hbb
                            clear hbf hbb
                            go_wp2_with fail
                            go_at_call 26
                            refine (before_spec Ao Ab L co Lb cb ow best _ HLL.out HLB.out (by omega) (by omega) HSO.out HBES.out).mono ?_
                            rintro e w7 ⟨he, hb7⟩
                            rw [HBBB.out] at he
                            subst he
                            dsimp only
                            go_wp2
                            go_roundw
                            case rel => exact ⟨t + 1, by omega, by go_num, by rw [HX.out], ⟨Ao, co, by rw [HX.out, ← HLL.out], by rw [HX.out]; exact HOLO.out.upto9 hb7⟩, below_step HB4X.out hb7⟩
                            case measure => simp [intOf]; omega
                        · have g2b : ((L : Int) == (Lb : Int)) = false := by rw [beq_eq_false_iff_ne]; omega
                          have HX := Lib.hid (HFN.out (.inr (betS_4 (by rw [HLL.out, HLB.out]; omega) (by rw [HLL.out, HLB.out]; exact g2))))
                          go_wp2
                          go_roundw
                          case rel => exact ⟨t + 1, by omega, by go_num, by rw [HX.out], ⟨Ab, cb, by rw [HX.out, ← HLB.out], by rw [HX.out]; exact HBHI.out⟩, HB4X.out⟩
                          case measure => simp [intOf]; omega
            · obtain rfl : t = P := by omega
              have hnl : ¬ (t : Int) < (t : Int) := by omega
              have HBF := Lib.hid (HBE.out.low9 HB4.out.size)
              have HBG := Lib.hid (below_step HB4.out HBL.out)
              clear HBE HBL
              generalize fewS f ps ws m t = st at *
              obtain ⟨best, found⟩ := st
              dsimp only at HBF hbl0 HR9 HC4 ⊢
              cases found
              · have HO := Lib.hid (HC4.out.trans (by rfl) : fsC f (bs s) ps m = 6)
                have HO2 := Lib.hid (fsR_no HO.out (by decide))
                go_wp2
                go_ret2
                exact ⟨_, _, by rw [HO.out, HO2.out] <;> rfl, below_step HBG.out (below_one _ _), by rw [HO2.out]; exact OwnS.nil⟩
              · have HO := Lib.hid (HC4.out.trans (by rfl) : fsC f (bs s) ps m = 0)
                have HO2 := Lib.hid (HR9.out HO.out)
                go_wp2
                go_ret2
                exact ⟨Ab, cb, by rw [HO.out, HO2.out] <;> rfl, HBG.out, by rw [HO2.out]; exact HBF.out⟩
end Go.Proofs.YtnlnjpdnhdmndaaGreatDoor
