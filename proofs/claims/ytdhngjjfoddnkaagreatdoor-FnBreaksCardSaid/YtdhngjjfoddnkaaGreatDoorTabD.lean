/- Contracts: how words are broken best, by the program and the reference. -/
import Derived.Test.YtdhngjjfoddnkaaGreatDoorTabC

namespace Go.Proofs.YtdhngjjfoddnkaaGreatDoor
open Go Go.RowKit
set_option linter.unusedVariables false
set_option linter.unusedSimpArgs false

attribute [local irreducible] wpQuiet in
set_option maxHeartbeats 2000000 in
set_option maxRecDepth 100000 in
theorem best_spec (f : Fc) (A : Option Addr) (n c : Nat) (s : ByteArray) (m : Int) (w : World) (hf : FcT f) (hn : f.pairs.length = n) (hm : n ≤ 1048576) (hs : s.size ≤ 1048576) (h : SlP w A f.pairs) :
    Calls Tryz.prog 11 #[.agg (fcV f (.slice A n c)).toArray, .string s, .int .i64 m] w (BstOut w (bstOut f (bs s) m).1 (bstOut f (bs s) m).2.1 (bstOut f (bs s) m).2.2) := by
  have hB := below_one w (.cells (fcV f (.slice A n c)).toArray 28)
  have hkf := Blk.new w 28 (fcV f (.slice A n c))
  have hfa : FcAt (w.alloc (.cells (fcV f (.slice A n c)).toArray 28)) w.heap.size f n := ⟨A, c, hkf, h.next hB⟩
  have HF := Lib.hid hf
  have HN := Lib.hid hn
  have HA := Lib.hid hfa
  clear hf hn h hfa hkf
  obtain ⟨cd, hcd⟩ : ∃ cd, cd = fndC f (bs s) m := ⟨_, rfl⟩
  have HC := Lib.hid hcd
  by_cases h0 : cd = 0
  · obtain ⟨hv, ht, hm0, hm1, hfit⟩ := fndC_zero (hcd.symm.trans h0)
    have HVV := Lib.hid (validF_iff.1 hv)
    have HW := Lib.hid (ws_words ht)
    subst h0
    have HO := Lib.hid (bstOut_ok hcd.symm)
    have HFIT := Lib.hid hfit
    clear hv ht hcd hfit
    by_cases hz : (words (bs s)).length = 0
    · have hz' : (((words (bs s)).length : Int) == 0) = true := by rw [hz]; rfl
      have HT := Lib.hid (top_zero (f := f) (m := m) hz)
      clear hz
      go_enter Tryz.func11, Tryz.ntmps11
      go_wp2_with fail
      go_at_call 31
      refine (found_spec f n w.heap.size s m _ HF.out HN.out hm hs HA.out).mono ?_
      rintro e w1 ⟨he, hb1⟩
      rw [← HC.out] at he
      subst he
      go_wp2_with fail
      go_at_call 33
      refine (words_spec s _ hs).mono ?_
      rintro e w2 ⟨A1, c1, rfl, hc1, hb2, hsl, hA1⟩
      have hB2 := below_step (below_step hB hb1) hb2
      clear hsl hA1 hc1
      go_wp2
      go_ret3
      exact ⟨_, _, by rw [HO.out, HT.out]; rfl, step_alloc hB2 _, by rw [HO.out, HT.out]; exact OwnS.nil⟩
    · have hz' : (((words (bs s)).length : Int) == 0) = false := by simpa using hz
      have HT := Lib.hid (top_same HVV.out HW.out hm1 hz HFIT.out)
      clear hz
      go_enter Tryz.func11, Tryz.ntmps11
      go_wp2_with fail
      go_at_call 31
      refine (found_spec f n w.heap.size s m _ HF.out HN.out hm hs HA.out).mono ?_
      rintro e w1 ⟨he, hb1⟩
      rw [← HC.out] at he
      subst he
      go_wp2_with fail
      go_at_call 33
      refine (words_spec s _ hs).mono ?_
      rintro e w2 ⟨A1, c1, rfl, hc1, hb2, hsl, hA1⟩
      have HSL := Lib.hid hsl
      have HA1 := Lib.hid hA1
      have hB2 := below_step (below_step hB hb1) hb2
      have hz2 := hB2.size
      clear hsl hA1
      go_wp2_with fail
      go_at_call 35
      refine (tails_spec f n w.heap.size A1 c1 (words (bs s)) m _ HF.out HVV.out HN.out hm HW.out ⟨hm0, hm1⟩ ((HA.out.next hb1).next hb2) HSL.out HA1.out hc1).mono ?_
      rintro e w3 ⟨g, rfl, hg, htab, hb3⟩
      have hB3 := below_step hB2 hb3
      obtain ⟨vs, hvs, hvl, hent⟩ := htab
      obtain ⟨Az, cz, e0, e1, e2, hbk⟩ := hent 0 (Nat.zero_le _)
      rw [HT.out] at e0 e1 e2 hbk
      obtain ⟨t, ht⟩ : ∃ t, t = top f (words (bs s)) m := ⟨_, rfl⟩
      have HTT := Lib.hid ht
      rw [← ht] at e0 e1 e2 hbk
      clear ht
      have k0 := hvs.cell _ _ e0
      have k1 := hvs.cell _ _ e1
      have k2 := hvs.cell _ _ e2
      rw [Nat.zero_mul] at k0 k1 k2
      rw [Nat.zero_add] at k1 k2
      have hk4 := Blk.new w3 68 [.int .i64 t.u, .slice Az t.b.length cz, .int .i64 t.c]
      have hb4 := below_one w3 (.cells #[.int .i64 t.u, .slice Az t.b.length cz, .int .i64 t.c] 68)
      have hB4 := below_step hB3 hb4
      have hbk4 := hbk.keep (KeepI.of_below hb4)
      clear hvs hent e0 e1 e2 hb4 hb3 hb2 hb1 hbk hc1
      go_wp2
      refine region_below ((w3.alloc (.cells #[.int .i64 t.u, .slice Az t.b.length cz, .int .i64 t.c] 68)).heap.size) (by kernel_rfl) (by kernel_rfl) ?_
      refine below_run (by kernel_rfl) (.pointer (some ⟨w3.heap.size, 1, none⟩)) (fun w' hw' => by kernel_rfl) ?_
      refine below_run (by kernel_rfl) (.slice Az t.b.length cz) (fun w' hw' => exec_load1 32 (.tmp 30) rfl ⟨w3.heap.size, 1, none⟩ (by kernel_rfl) (.slice Az t.b.length cz) ((hk4.next hw').cell 1 _ rfl) _ Tryz.underlying32 rfl) ?_
      refine below_run (by kernel_rfl) (.pointer (some ⟨w3.heap.size, 0, none⟩)) (fun w' hw' => by kernel_rfl) ?_
      refine below_run (by kernel_rfl) (.int .i64 t.u) (fun w' hw' => exec_load1 2 (.tmp 32) rfl ⟨w3.heap.size, 0, none⟩ (by kernel_rfl) (.int .i64 t.u) ((hk4.next hw').cell 0 _ rfl) _ Tryz.underlying2 rfl) ?_
      refine below_run (by kernel_rfl) (.slice Az t.b.length cz) (fun w' hw' => by kernel_rfl) ?_
      refine below_run (by kernel_rfl) (.int .i64 t.u) (fun w' hw' => by kernel_rfl) ?_
      refine below_run (by kernel_rfl) (.int .i64 0) (fun w' hw' => by kernel_rfl) ?_
      refine wpQuiet_nil ?_
      intro W5 hW5
      simp only [Act.put, List.setIfInBounds_toArray, List.set_cons_succ, List.set_cons_zero]
      have hB5 := below_step hB4 hW5
      have hbk5 := (hbk4.keep (KeepI.of_below hW5)).lo hz2
      clear hk4 hW5 hbk4 k0 k1 k2
      go_wp2
      go_ret3
      exact ⟨Az, cz, by rw [HO.out, ← HTT.out]; rfl, hB5, by rw [HO.out, ← HTT.out]; exact hbk5.1⟩
  · have HO := Lib.hid (bstOut_no (f := f) (l := bs s) (m := m) (by rw [← hcd]; exact h0))
    clear hcd
    go_enter Tryz.func11, Tryz.ntmps11
    go_wp2_with (go_at_call 31; refine (found_spec f n w.heap.size s m _ HF.out HN.out hm hs HA.out).mono ?_; rintro e w1 ⟨he, hb⟩; rw [← HC.out] at he; subst he; have hB := below_step hB hb; clear hb)
    go_ret3
    exact ⟨_, _, by rw [HO.out, ← HC.out]; rfl, step_alloc hB _, by rw [HO.out]; exact OwnS.nil⟩

attribute [local irreducible] wpQuiet in
set_option maxHeartbeats 2000000 in
set_option maxRecDepth 100000 in
theorem best_impl (f : Fc) (A : Option Addr) (n c : Nat) (s : ByteArray) (m : Int) (w : World) (hf : FcT f) (hn : f.pairs.length = n) (hm : n ≤ 1048576) (hs : s.size ≤ 1048576) (h : SlP w A f.pairs) (hmx : MaxW w) (hsp : SpT w) :
    Calls Tryz.prog 10 #[.agg (fcV f (.slice A n c)).toArray, .string s, .int .i64 m] w (BstOut w (bstOut f (bs s) m).1 (bstOut f (bs s) m).2.1 (bstOut f (bs s) m).2.2) := by
  have hB := below_one w (.cells (fcV f (.slice A n c)).toArray 28)
  have hk := Blk.new w 28 (fcV f (.slice A n c))
  have HS := Lib.hid (h.next hB)
  have HM := Lib.hid (hmx.next hB)
  have HP := Lib.hid (hsp.next hB)
  have HF := Lib.hid hf
  have HN := Lib.hid hn
  have hsz : (fcV f (.slice A n c)).toArray.size = 29 := by simp [fcV_length hf]
  have HZ := Lib.hid (show (Tryz.prog.info? 28).map (·.size) = some (fcV f (.slice A n c)).toArray.size by rw [hsz]; exact szFcI)
  clear hn h hmx hsp hsz hf
  go_enter Tryz.func10, Tryz.ntmps10
  go_wp2_with (refine wpList_load_row rfl 28 (.tmp 3) rfl _ rfl 28 (fcV f (.slice A n c)).toArray _ _ hk Tryz.underlying28 rfl HZ.out ?_)
  go_at_call 29
  refine (setterOf_impl f A n c s m _ HF.out HN.out hm hs HS.out HM.out HP.out).mono ?_
  rintro e w1 ⟨hb, ⟨hne, rfl⟩ | ⟨h0, g, rfl, hg, hgb⟩⟩
  · have HO := Lib.hid (bstOut_no (f := f) (l := bs s) (m := m) (by rw [fndC_no hne]; exact hne))
    have HO2 := Lib.hid (fndC_no hne)
    have hB := below_step hB hb
    clear hb hk
    obtain ⟨cd, hcd⟩ : ∃ cd, cd = askC f (bs s) (inB 0 4000 m) := ⟨_, rfl⟩
    have HC := Lib.hid hcd
    rw [← hcd] at hne ⊢
    clear hcd
    go_wp2_with (refine wpList_store_new rfl 55 _ _ rfl zSt.toArray rfl rfl 55 _ szStI rfl (one_st _ _ _ _ _ _ _ _) ?_)
    go_ret3
    exact ⟨none, 0, by rw [HO.out, HO2.out, ← HC.out]; rfl, step_alloc hB _, by rw [HO.out]; exact OwnS.nil⟩
  · obtain ⟨hv, ht, hin⟩ := askC_zero h0
    have HVV := Lib.hid (validF_iff.1 hv)
    have HW := Lib.hid (ws_words ht)
    have HCL := Lib.hid (cut_len ht)
    have hmr := inB_iff.1 hin
    have H0 := Lib.hid h0
    have hS1 := HS.out.next hb
    have hB := below_step hB hb
    clear hv ht hin hb h0 hk
    have hx := Blk.new w1 55 (stV f (.slice A n c) (wS g (words (bs s))) m)
    have hb := below_one w1 (.cells (stV f (.slice A n c) (wS g (words (bs s))) m).toArray 55)
    have hB2 := below_step hB hb
    have hz2 := hB2.size
    have HG2 := Lib.hid (hgb.next hb)
    have HS2 := Lib.hid (hS1.next hb)
    clear hb hgb hS1
    go_wp2_with (first
      | (refine wpList_store_new rfl 55 _ _ rfl (stV f (.slice A n c) (wS g (words (bs s))) m).toArray rfl rfl 55 _ (stSz HF.out _ _ _) (stOld HF.out _ _ _) (one_st _ _ _ _ _ _ _ _) ?_)
      | (refine wpList_load_row rfl 55 (.tmp 9) rfl _ rfl 55 (stV f (.slice A n c) (wS g (words (bs s))) m).toArray _ _ hx Tryz.underlying55 rfl (stSz HF.out _ _ _) ?_))
    generalize w1.alloc (.cells (stV f (.slice A n c) (wS g (words (bs s))) m).toArray 55) = W2 at *
    go_at_call 34
    refine (settings_impl f A n c g (words (bs s)) m _ HF.out HVV.out HN.out hm HS2.out HW.out HCL.out hmr HG2.out).mono ?_
    rintro e w3 ⟨t, A3, c3, he, hbk, hb3, ht0, ht1⟩
    change e = .returned (.agg #[.int .i64 t.u, .slice A3 t.b.length c3, .int .i64 t.c]) at he
    subst he
    have htt : top f (words (bs s)) m = t := by
      by_cases hz : (words (bs s)).length = 0
      · rw [top_zero hz, ht0 hz]
      · rw [top_pos hz, ht1 (by omega)]
    have hiff := top_fits HVV.out HW.out hmr.2
    rw [htt] at hiff
    have HT := Lib.hid htt
    have hB3 := below_step hB2 hb3
    clear hx ht0 ht1 htt hb3
    by_cases hc0 : t.c = 0
    · have hq : (t.c == 0) = true := by rw [hc0]; rfl
      have hnf : fits f (words (bs s)) m = false := by
        cases hfit : fits f (words (bs s)) m
        · rfl
        · exact absurd hc0 (hiff.1 hfit)
      have HC := Lib.hid (fndC_bad H0.out hnf)
      have HO := Lib.hid (bstOut_no (f := f) (l := bs s) (m := m) (by rw [HC.out]; decide))
      clear hc0 hiff hnf hbk
      go_wp2
      go_ret3
      exact ⟨none, 0, by rw [HO.out, HC.out]; rfl, step_alloc hB3 _, by rw [HO.out]; exact OwnS.nil⟩
    · have hq : (t.c == 0) = false := by simpa using hc0
      have HO := Lib.hid (bstOut_ok (fndC_ok H0.out (hiff.2 hc0)))
      clear hc0 hiff
      have hk4 := Blk.new w3 65 [.int .i64 t.u, .slice A3 t.b.length c3, .int .i64 t.c]
      have hb4 := below_one w3 (.cells #[.int .i64 t.u, .slice A3 t.b.length c3, .int .i64 t.c] 65)
      have hB4 := below_step hB3 hb4
      have hbk4 := hbk.keep (KeepI.of_below hb4)
      clear hb4 hbk
      go_wp2
      refine region_below ((w3.alloc (.cells #[.int .i64 t.u, .slice A3 t.b.length c3, .int .i64 t.c] 65)).heap.size) (by kernel_rfl) (by kernel_rfl) ?_
      refine below_run (by kernel_rfl) (.pointer (some ⟨w3.heap.size, 1, none⟩)) (fun w' hw' => by kernel_rfl) ?_
      refine below_run (by kernel_rfl) (.slice A3 t.b.length c3) (fun w' hw' => exec_load1 32 (.tmp 27) rfl ⟨w3.heap.size, 1, none⟩ (by kernel_rfl) (.slice A3 t.b.length c3) ((hk4.next hw').cell 1 _ rfl) _ Tryz.underlying32 rfl) ?_
      refine below_run (by kernel_rfl) (.pointer (some ⟨w3.heap.size, 0, none⟩)) (fun w' hw' => by kernel_rfl) ?_
      refine below_run (by kernel_rfl) (.int .i64 t.u) (fun w' hw' => exec_load1 2 (.tmp 29) rfl ⟨w3.heap.size, 0, none⟩ (by kernel_rfl) (.int .i64 t.u) ((hk4.next hw').cell 0 _ rfl) _ Tryz.underlying2 rfl) ?_
      refine below_run (by kernel_rfl) (.slice A3 t.b.length c3) (fun w' hw' => by kernel_rfl) ?_
      refine below_run (by kernel_rfl) (.int .i64 t.u) (fun w' hw' => by kernel_rfl) ?_
      refine below_run (by kernel_rfl) (.int .i64 0) (fun w' hw' => by kernel_rfl) ?_
      refine wpQuiet_nil ?_
      intro W5 hW5
      simp only [Act.put, List.setIfInBounds_toArray, List.set_cons_succ, List.set_cons_zero]
      have hB5 := below_step hB4 hW5
      have hbk5 := (hbk4.keep (KeepI.of_below hW5)).lo hz2
      clear hk4 hW5 hbk4
      go_wp2
      go_ret3
      exact ⟨A3, c3, by rw [HO.out, HT.out]; rfl, hB5, by rw [HO.out, HT.out]; exact hbk5.1⟩
end Go.Proofs.YtdhngjjfoddnkaaGreatDoor
