/- Contracts: as many words as a budget buys, by the reference, by the program. -/
import Derived.Test.YtonnplaacebekaaGreatDoorPcJ
import Derived.Test.YtonnplaacebekaaGreatDoorGG
namespace Go.Proofs.YtonnplaacebekaaGreatDoor
open Go Go.RowKit Go.Shelf
set_option linter.unusedVariables false
set_option linter.unusedSimpArgs false

/-- The first number from k on, of d more, that is not so. -/
def lead (P : Nat → Bool) : Nat → Nat → Nat
  | 0, k => k
  | d + 1, k => if P k = true then lead P d (k + 1) else k
theorem lead_yes {P : Nat → Bool} {n k : Nat} (hk : k < n) (h : P k = true) : lead P (n - k) k = lead P (n - (k + 1)) (k + 1) := by
  rw [show n - k = (n - (k + 1)) + 1 by omega, lead, if_pos h]
theorem lead_no {P : Nat → Bool} {n k : Nat} (hk : k < n) (h : P k = false) : lead P (n - k) k = k := by
  rw [show n - k = (n - (k + 1)) + 1 by omega, lead, if_neg (by rw [h]; simp)]
def buyP (f : Fc) (p : Pc) (ws : List (List UInt8)) (m : Int) (k : Nat) : Bool := decide (prcW f p (joinW (cutW ws 0 (k + 1))) ≤ m)
def wfR (f : Fc) (p : Pc) (l : List UInt8) (m : Int) : Int × Int :=
  if pcC f p l (inB 0 1000000 m) = 0 then (if m < p.base then (0, 6) else (((lead (buyP f p (words l) m) ((words l).length - 0) 0 : Nat) : Int), 0)) else (0, pcC f p l (inB 0 1000000 m))

set_option maxRecDepth 100000 in
theorem budget_spec (m : Int) (w : World) : Calls Tryz.prog 22 #[.int .i64 m] w fun e w' => e = .returned (.bool (inB 0 1000000 m)) ∧ w = w' := by
  go_enter Tryz.func22, Tryz.ntmps22
  go_wp2_with (go_at_call 55; refine (inS_any _ _ _ _).mono ?_; rintro e w' ⟨rfl, rfl⟩)
  go_ret
  exact ⟨rfl, rfl⟩

set_option maxHeartbeats 4000000 in
set_option maxRecDepth 100000 in
theorem wordsFor_spec (f : Fc) (A : Option Addr) (n c : Nat) (p : Pc) (s : ByteArray) (m : Int) (w : World) (hf : FcT f) (hn : f.pairs.length = n) (hm : n ≤ 1048576) (hs : s.size ≤ 1048576) (hp : PcT p) (h : SlP w A f.pairs) :
    Calls Tryz.prog 7 #[.agg (fcV f (.slice A n c)).toArray, .agg (pcV p).toArray, .string s, .int .i64 m] w fun e w' => e = .returned (.tuple #[.int .i64 (wfR f p (bs s) m).1, .int .i64 (wfR f p (bs s) m).2]) ∧ Below w.heap.size w w' := by
  have hB := below_two w (.cells (fcV f (.slice A n c)).toArray 36) (.cells (pcV p).toArray 38)
  have hk := (Blk.new w 36 (fcV f (.slice A n c))).alloc (.cells (pcV p).toArray 38)
  have hfa : FcAt ((w.alloc (.cells (fcV f (.slice A n c)).toArray 36)).alloc (.cells (pcV p).toArray 38)) w.heap.size f n := ⟨A, c, hk, h.next hB⟩
  have hpb := Blk.new (w.alloc (.cells (fcV f (.slice A n c)).toArray 36)) 38 (pcV p)
  rw [World.size_alloc] at hpb
  have tb := hp.base
  have HF := Lib.hid hf
  have HN := Lib.hid hn
  have HA := Lib.hid hfa
  have HP := Lib.hid hp
  have HB := Lib.hid hpb
  clear hf hn h hfa hk hp hpb
  obtain ⟨fb, hfb⟩ : ∃ fb, fb = inB 0 1000000 m := ⟨_, rfl⟩
  have HFB := Lib.hid hfb
  obtain ⟨cd, hcd⟩ : ∃ cd, cd = pcC f p (bs s) fb := ⟨_, rfl⟩
  have HC := Lib.hid hcd
  by_cases h0 : cd = 0
  · have hz := hcd.symm.trans h0
    obtain ⟨hv, hpo, ht, hinn⟩ := pcC_zero hz
    have HVV := Lib.hid (validF_iff.1 hv)
    have HPV := Lib.hid (pcOk_iff.1 hpo)
    have HW := Lib.hid (ws_words ht)
    have HCL := Lib.hid (cut_len ht)
    have hcnt := words_count ht
    by_cases hbm : m < p.base
    · have HO := Lib.hid (show wfR f p (bs s) m = (0, 6) by unfold wfR; rw [← hfb, if_pos hz, if_pos hbm])
      subst h0
      clear hv ht hcd hinn hpo hz hfb
      rw [HO.out]
      go_enter Tryz.func7, Tryz.ntmps7
      go_wp2_with (first
        | (go_at_call 22; refine (budget_spec _ _).mono ?_; rintro e w0 ⟨he, rfl⟩; rw [← HFB.out] at he; subst he)
        | (go_at_call 21; refine (pcTold_spec f n w.heap.size (w.heap.size + 1) p s fb _ HF.out HN.out hm hs HP.out HA.out HB.out).mono ?_; rintro e w1 ⟨he, hb⟩; rw [← HC.out] at he; subst he; have c27 := (HB.out.next hb).cell 27 _ (pcV_base HP.out); have hb1 := hb; clear hb))
      go_ret2
      exact ⟨rfl, below_step hB hb1⟩
    · obtain ⟨ws, hW⟩ : ∃ ws, ws = words (bs s) := ⟨_, rfl⟩
      have HO := Lib.hid (show wfR f p (bs s) m = (((lead (buyP f p ws m) (ws.length - 0) 0 : Nat) : Int), 0) by unfold wfR; rw [← hfb, if_pos hz, if_neg hbm, ← hW])
      have HWS := Lib.hid hW
      rw [← hW] at hcnt HW HCL
      have HLS := Lib.hid (fun a b => line_ls (HW.out.cut a b))
      subst h0
      clear hv ht hcd hinn hpo hz hfb hW
      rw [HO.out]
      go_enter Tryz.func7, Tryz.ntmps7
      go_wp2_with (first
        | (go_at_call 22; refine (budget_spec _ _).mono ?_; rintro e w0 ⟨he, rfl⟩; rw [← HFB.out] at he; subst he)
        | (go_at_call 21; refine (pcTold_spec f n w.heap.size (w.heap.size + 1) p s fb _ HF.out HN.out hm hs HP.out HA.out HB.out).mono ?_; rintro e w1 ⟨he, hb⟩; rw [← HC.out] at he; subst he; have c27 := (HB.out.next hb).cell 27 _ (pcV_base HP.out); have hb1 := hb; clear hb)
        | (go_at_call 23; refine (words_spec s _ hs).mono ?_; rintro e w2 ⟨A1, c1, rfl, hc1, hb2, hsl, hA1⟩; rw [← HWS.out] at hc1 hsl hA1 ⊢))
      have hB2 := below_step (below_step hB hb1) hb2
      have HA2 := Lib.hid ((HA.out.next hb1).next hb2)
      have HB2 := Lib.hid ((HB.out.next hb1).next hb2)
      have HSL := Lib.hid hsl
      have HG := Lib.hid hA1
      clear hb1 hb2 hsl HA hB hA1 c27
      go_loopw [12] (fun i wr => ∃ k : Nat, k ≤ ws.length ∧ i = .int .i64 k ∧ lead (buyP f p ws m) (ws.length - k) k = lead (buyP f p ws m) (ws.length - 0) 0 ∧ Below w2.heap.size w2 wr) (fun i _ => ws.length - (intOf i).toNat)
      case atStart => exact ⟨0, Nat.zero_le _, rfl, rfl, Below.refl _ _⟩
      case round =>
        obtain ⟨k, hk, rfl, hld, hbel⟩ := hrel
        have HLD := Lib.hid hld
        clear hld
        by_cases hlt : k < ws.length
        · obtain ⟨g, rfl⟩ := HG.out (by omega)
          have hcut : (cutW ws 0 (k + 1)).length = k + 1 := cutW_length hlt
          have HCUT := Lib.hid hcut
          have HSC := Lib.hid (show SlE sv wr (some ⟨g, 0, none⟩) (cutW ws 0 (k + 1)) from slE_cut (HSL.out.next hbel) 0 (k + 1))
          have HA3 := Lib.hid (HA2.out.next hbel)
          have HB3 := Lib.hid (HB2.out.next hbel)
          have HCL2 := Lib.hid (HCL.out 0 (k + 1))
          have hadd : IntKind.i64.wrap ((k : Int) + 1) = ((k + 1 : Nat) : Int) := by rw [IntWalk.i64_in _ (by omega)]; omega
          obtain ⟨pr, hpr⟩ : ∃ pr, pr = prcW f p (joinW (cutW ws 0 (k + 1))) := ⟨_, rfl⟩
          have HPR := Lib.hid hpr
          clear hcut
          by_cases hle : pr ≤ m
          · have HNX := Lib.hid (lead_yes hlt (show buyP f p ws m k = true by unfold buyP; rw [← hpr]; exact decide_eq_true hle))
            clear hpr
            go_wp2_with (go_at_call 25; refine (joined_spec _ _ _ (cutW ws 0 (k + 1)) _ HCUT.out (by omega) (HW.out.cut _ _).len HSC.out).mono ?_; rintro e w3 ⟨rfl, hb3⟩; go_wp2_with (go_at_call 24; refine (cost_spec f p n w.heap.size (w.heap.size + 1) ⟨(joinW (cutW ws 0 (k + 1))).toArray⟩ _ HF.out HP.out HVV.out HPV.out (HLS.out _ _) HCL2.out (HA3.out.next hb3) (HB3.out.next hb3)).mono ?_; rintro e w4 ⟨he, hb4⟩; change e = .returned (.int .i64 (prcW f p (joinW (cutW ws 0 (k + 1))))) at he; rw [← HPR.out] at he; subst he; have hbel := below_step hbel (below_step hb3 hb4); clear hb3 hb4))
            go_roundw
            case rel => exact ⟨k + 1, by omega, by go_num, HNX.out.symm.trans HLD.out, hbel⟩
            case measure => simp [intOf]; omega
          · have HNX := Lib.hid (lead_no hlt (show buyP f p ws m k = false by unfold buyP; rw [← hpr]; exact decide_eq_false hle))
            clear hpr
            go_wp2_with (go_at_call 25; refine (joined_spec _ _ _ (cutW ws 0 (k + 1)) _ HCUT.out (by omega) (HW.out.cut _ _).len HSC.out).mono ?_; rintro e w3 ⟨rfl, hb3⟩; go_wp2_with (go_at_call 24; refine (cost_spec f p n w.heap.size (w.heap.size + 1) ⟨(joinW (cutW ws 0 (k + 1))).toArray⟩ _ HF.out HP.out HVV.out HPV.out (HLS.out _ _) HCL2.out (HA3.out.next hb3) (HB3.out.next hb3)).mono ?_; rintro e w4 ⟨he, hb4⟩; change e = .returned (.int .i64 (prcW f p (joinW (cutW ws 0 (k + 1))))) at he; rw [← HPR.out] at he; subst he; have hbel := below_step hbel (below_step hb3 hb4); clear hb3 hb4))
            go_ret2
            exact ⟨by rw [← HLD.out, HNX.out]; rfl, hB2.trans (hbel.mono hB2.size)⟩
        · obtain rfl : k = ws.length := by omega
          go_wp2
          go_ret2
          exact ⟨by rw [← HLD.out, Nat.sub_self]; rfl, hB2.trans (hbel.mono hB2.size)⟩
  · have HO := Lib.hid (show wfR f p (bs s) m = (0, cd) by unfold wfR; rw [← hfb, ← hcd, if_neg h0])
    clear hcd hfb
    rw [HO.out]
    go_enter Tryz.func7, Tryz.ntmps7
    go_wp2_with (first
      | (go_at_call 22; refine (budget_spec _ _).mono ?_; rintro e w0 ⟨he, rfl⟩; rw [← HFB.out] at he; subst he)
      | (go_at_call 21; refine (pcTold_spec f n w.heap.size (w.heap.size + 1) p s fb _ HF.out HN.out hm hs HP.out HA.out HB.out).mono ?_; rintro e w1 ⟨he, hb⟩; rw [← HC.out] at he; subst he; have hb1 := hb; clear hb))
    go_ret2
    exact ⟨rfl, below_step hB hb1⟩

attribute [local irreducible] wpQuiet in
set_option maxHeartbeats 4000000 in
set_option maxRecDepth 100000 in
theorem wordsFor_impl (f : Fc) (A : Option Addr) (n c : Nat) (p : Pc) (s : ByteArray) (m : Int) (w : World) (hf : FcT f) (hn : f.pairs.length = n) (hm : n ≤ 1048576) (hs : s.size ≤ 1048576) (hp : PcT p) (h : SlP w A f.pairs) (hmx : MaxW w) (hsp : SpT w) :
    Calls Tryz.prog 10 #[.agg (fcV f (.slice A n c)).toArray, .agg (pcV p).toArray, .string s, .int .i64 m] w fun e w' => e = .returned (.tuple #[.int .i64 (wfR f p (bs s) m).1, .int .i64 (wfR f p (bs s) m).2]) ∧ Below w.heap.size w w' := by
  have hB := below_two w (.cells (fcV f (.slice A n c)).toArray 36) (.cells (pcV p).toArray 38)
  have hb0 := below_one ((w.alloc (.cells (fcV f (.slice A n c)).toArray 36)).alloc (.cells (pcV p).toArray 38)) (.cells #[.string s] 9)
  have hk1 := ((Blk.new w 36 (fcV f (.slice A n c))).alloc (.cells (pcV p).toArray 38))
  have hk2 := Blk.new (w.alloc (.cells (fcV f (.slice A n c)).toArray 36)) 38 (pcV p)
  have hsl0 : SlE sv (((w.alloc (.cells (fcV f (.slice A n c)).toArray 36)).alloc (.cells (pcV p).toArray 38)).alloc (.cells #[.string s] 9)) (some ⟨((w.alloc (.cells (fcV f (.slice A n c)).toArray 36)).alloc (.cells (pcV p).toArray 38)).heap.size, 0, none⟩) [bs s] := SlE.of_row (Blk.row (enc := sv) (Blk.new ((w.alloc (.cells (fcV f (.slice A n c)).toArray 36)).alloc (.cells (pcV p).toArray 38)) 9 [sv (bs s)]))
  rw [World.size_alloc] at hk2
  rw [World.size_alloc, World.size_alloc] at hsl0
  have tb := hp.base
  have hsz : (fcV f (.slice A n c)).toArray.size = 29 := by simp [fcV_length hf]
  have HZ := Lib.hid (show (Tryz.prog.info? 36).map (·.size) = some (fcV f (.slice A n c)).toArray.size by rw [hsz]; exact szFcI)
  have HZ2 := Lib.hid (show (Tryz.prog.info? 38).map (·.size) = some (pcV p).toArray.size by rw [List.size_toArray, pcV_length hp]; exact szPcI)
  have hB1 := below_step hB hb0
  have HS := Lib.hid (h.next hB1)
  have HM := Lib.hid (hmx.next hB1)
  have HPS := Lib.hid (hsp.next hB1)
  have HF := Lib.hid hf
  have HN := Lib.hid hn
  have HP := Lib.hid hp
  have HK1 := Lib.hid (hk1.next hb0)
  have HK2 := Lib.hid (hk2.next hb0)
  have HSL0 := Lib.hid hsl0
  have HBB := Lib.hid hB1
  have HLS := Lib.hid (show ∀ x ∈ [bs s], x.length ≤ 1048576 by intro x hx; obtain rfl := List.mem_singleton.1 hx; rw [bs_length]; exact hs)
  clear hf hn h hp hmx hsp hsz hsl0 hB hB1 hb0
  obtain ⟨cd, hcd⟩ : ∃ cd, cd = pcC f p (bs s) true := ⟨_, rfl⟩
  have HC := Lib.hid hcd
  by_cases h0 : cd = 0
  · have hz := hcd.symm.trans h0
    obtain ⟨hv, hpo, ht, _⟩ := pcC_zero hz
    have HVV := Lib.hid (validF_iff.1 hv)
    have HPV := Lib.hid (pcOk_iff.1 hpo)
    have HT := Lib.hid ht
    have HW := Lib.hid (ws_words ht)
    have HCL := Lib.hid (cut_len ht)
    have hcnt := words_count ht
    have HOK := Lib.hid (fun b => pcC_ok (b := b) hv hpo ht)
    subst h0
    clear hv ht hcd hpo hz
    cases hin : inB 0 1000000 m
    · have HI := Lib.hid hin
      have HO := Lib.hid (show wfR f p (bs s) m = (0, 2) by unfold wfR; rw [hin, HOK.out]; rfl)
      clear hin
      rw [HO.out]
      go_enter Tryz.func10, Tryz.ntmps10
      go_wp2_with (first
        | (refine wpList_load_row rfl 36 (.tmp 4) rfl _ rfl 36 (fcV f (.slice A n c)).toArray _ _ hk1 Tryz.underlying36 rfl HZ.out ?_)
        | (refine wpList_load_row rfl 38 (.tmp 5) rfl _ rfl 38 (pcV p).toArray _ _ hk2 Tryz.underlying38 rfl HZ2.out ?_)
        | (go_at_call 29; refine (priceCode_any f p A _ n c 1 1 [bs s] _ HF.out HP.out HN.out hm rfl (by omega) HLS.out HS.out HSL0.out HM.out).mono ?_; rintro e w1 ⟨he, hb1⟩; rw [pccN_one, ← HC.out] at he; subst he; have c27 := (HK2.out.next hb1).cell 27 _ (pcV_base HP.out); clear hk1 hk2; have hk1 : True := trivial)
        | (go_at_call 30; refine (withinI_any _ _ _ _).mono ?_; rintro e w2 ⟨he, rfl⟩; rw [HI.out] at he; subst he)
        )
      go_ret2
      exact ⟨rfl, below_step HBB.out hb1⟩
    · have HI := Lib.hid hin
      by_cases hbm : m < p.base
      · have HO := Lib.hid (show wfR f p (bs s) m = (0, 6) by unfold wfR; rw [hin, HOK.out, if_pos rfl, if_pos rfl, if_pos hbm])
        clear hin
        rw [HO.out]
        go_enter Tryz.func10, Tryz.ntmps10
        go_wp2_with (first
          | (refine wpList_load_row rfl 36 (.tmp 4) rfl _ rfl 36 (fcV f (.slice A n c)).toArray _ _ hk1 Tryz.underlying36 rfl HZ.out ?_)
          | (refine wpList_load_row rfl 38 (.tmp 5) rfl _ rfl 38 (pcV p).toArray _ _ hk2 Tryz.underlying38 rfl HZ2.out ?_)
          | (go_at_call 29; refine (priceCode_any f p A _ n c 1 1 [bs s] _ HF.out HP.out HN.out hm rfl (by omega) HLS.out HS.out HSL0.out HM.out).mono ?_; rintro e w1 ⟨he, hb1⟩; rw [pccN_one, ← HC.out] at he; subst he; have c27 := (HK2.out.next hb1).cell 27 _ (pcV_base HP.out); clear hk1 hk2; have hk1 : True := trivial)
          | (go_at_call 30; refine (withinI_any _ _ _ _).mono ?_; rintro e w2 ⟨he, rfl⟩; rw [HI.out] at he; subst he)
          )
        go_ret2
        exact ⟨rfl, below_step HBB.out hb1⟩
      · obtain ⟨ws, hW⟩ : ∃ ws, ws = words (bs s) := ⟨_, rfl⟩
        have HO := Lib.hid (show wfR f p (bs s) m = (((lead (buyP f p ws m) (ws.length - 0) 0 : Nat) : Int), 0) by unfold wfR; rw [hin, HOK.out, if_pos rfl, if_pos rfl, if_neg hbm, ← hW])
        have HWE := Lib.hid hW
        rw [← hW] at hcnt HW HCL
        clear hin hW
        rw [HO.out]
        go_enter Tryz.func10, Tryz.ntmps10
        go_wp2_with (first
          | (refine wpList_load_row rfl 36 (.tmp 4) rfl _ rfl 36 (fcV f (.slice A n c)).toArray _ _ hk1 Tryz.underlying36 rfl HZ.out ?_)
          | (refine wpList_load_row rfl 38 (.tmp 5) rfl _ rfl 38 (pcV p).toArray _ _ hk2 Tryz.underlying38 rfl HZ2.out ?_)
          | (go_at_call 29; refine (priceCode_any f p A _ n c 1 1 [bs s] _ HF.out HP.out HN.out hm rfl (by omega) HLS.out HS.out HSL0.out HM.out).mono ?_; rintro e w1 ⟨he, hb1⟩; rw [pccN_one, ← HC.out] at he; subst he; have c27 := (HK2.out.next hb1).cell 27 _ (pcV_base HP.out); clear hk1 hk2; have hk1 : True := trivial)
          | (go_at_call 30; refine (withinI_any _ _ _ _).mono ?_; rintro e w2 ⟨he, rfl⟩; rw [HI.out] at he; subst he)
          | (go_at_call 31; refine (fields_impl s _ HT.out (HPS.out.next hb1)).mono ?_; rintro e w2 ⟨rfl, rfl⟩; rw [← HWE.out]))
        have HK1b := Lib.hid ((HK1.out.next hb1).alloc (.cells (wsV ws).toArray 9))
        have HK2b := Lib.hid ((HK2.out.next hb1).alloc (.cells (wsV ws).toArray 9))
        have HWS := Lib.hid (Blk.new w1 9 (wsV ws))
        have HMb := Lib.hid ((HM.out.next hb1).next (below_one w1 (.cells (wsV ws).toArray 9)))
        have hB2 := below_step (below_step HBB.out hb1) (below_one w1 (.cells (wsV ws).toArray 9))
        clear hb1 HPS HT hk1 c27
        obtain ⟨g, hg⟩ : ∃ g, g = w1.heap.size := ⟨_, rfl⟩
        rw [← hg] at HWS ⊢
        clear hg
        generalize w1.alloc (.cells (wsV ws).toArray 9) = W2 at *
        go_loopw [12] (fun i wr => ∃ k : Nat, k ≤ ws.length ∧ i = .int .i64 k ∧ lead (buyP f p ws m) (ws.length - k) k = lead (buyP f p ws m) (ws.length - 0) 0 ∧ Below W2.heap.size W2 wr) (fun i _ => ws.length - (intOf i).toNat)
        case atStart => exact ⟨0, Nat.zero_le _, rfl, rfl, Below.refl _ _⟩
        case round =>
          obtain ⟨k, hk, rfl, hld, hbel⟩ := hrel
          have HLD := Lib.hid hld
          clear hld
          have hB3 := hB2.trans (hbel.mono hB2.size)
          by_cases hlt : k < ws.length
          · have HCUT := Lib.hid (HCL.out 0 (k + 1))
            have HW3 := Lib.hid (HWS.out.next hbel)
            have HK13 := Lib.hid (HK1b.out.next hbel)
            have HK23 := Lib.hid (HK2b.out.next hbel)
            have HM3 := Lib.hid (HMb.out.next hbel)
            have hlt2 : decide ((k : Int) < (ws.length : Int)) = true := decide_eq_true (by omega)
            have hadd : IntKind.i64.wrap ((k : Int) + 1) = ((k + 1 : Nat) : Int) := by rw [IntWalk.i64_in _ (by omega)]; omega
            obtain ⟨pr, hpr⟩ : ∃ pr, pr = prcW f p (joinW (cutW ws 0 (k + 1))) := ⟨_, rfl⟩
            have HPR := Lib.hid hpr
            have HCO := Lib.hid (fun (w' : World) (hw' : Below wr.heap.size wr w') => (show Calls Tryz.prog 32 #[.agg (pcV p).toArray, .agg (fcV f (.slice A n c)).toArray, .string ⟨(joinW (cutW ws 0 (k + 1))).toArray⟩] w' (fun e w1 => e = .returned (.int .i64 pr) ∧ Below w'.heap.size w' w1) from HPR.out ▸ cost_impl f p A n c ⟨(joinW (cutW ws 0 (k + 1))).toArray⟩ w' HF.out HP.out HVV.out HPV.out (line_ls (HW.out.cut _ _)) HCUT.out (HM3.out.next hw')))
            clear hpr
            go_wp2
            refine region_below (wr.heap.size) (by kernel_rfl) (by kernel_rfl) ?_
            refine below_run (by kernel_rfl) (.int .i64 k) (fun w' hw' => by kernel_rfl) ?_
            refine below_run (by kernel_rfl) (.slice (some ⟨g, 0, none⟩) ws.length ws.length) (fun w' hw' => by kernel_rfl) ?_
            refine below_run (by kernel_rfl) (.int .i64 ws.length) (fun w' hw' => by kernel_rfl) ?_
            refine below_run (by kernel_rfl) (.bool true) (fun w' hw' => Eq.trans (show (execOp _ _).run _ w' = .ok (.value (.bool (decide ((k : Int) < (ws.length : Int))))) w' by kernel_rfl) (by rw [hlt2])) ?_
            refine below_run (by kernel_rfl) (.bool true) (fun w' hw' => by kernel_rfl) ?_
            refine below_run (by kernel_rfl) (.agg (pcV p).toArray) (fun w' hw' => exec_load_row 38 (.tmp 5) rfl (w.heap.size + 1) (by kernel_rfl) 38 (pcV p).toArray _ _ (HK23.out.next hw') Tryz.underlying38 rfl (HZ2.out)) ?_
            refine below_run (by kernel_rfl) (.agg (fcV f (.slice A n c)).toArray) (fun w' hw' => exec_load_row 36 (.tmp 4) rfl (w.heap.size) (by kernel_rfl) 36 (fcV f (.slice A n c)).toArray _ _ (HK13.out.next hw') Tryz.underlying36 rfl (HZ.out)) ?_
            refine below_run (by kernel_rfl) (.slice (some ⟨g, 0, none⟩) ws.length ws.length) (fun w' hw' => by kernel_rfl) ?_
            refine below_run (by kernel_rfl) (.int .i64 k) (fun w' hw' => by kernel_rfl) ?_
            refine below_run (by kernel_rfl) (.int .i64 ((k + 1 : Nat) : Int)) (fun w' hw' => Eq.trans (show (execOp _ _).run _ w' = .ok (.value (.int .i64 (IntKind.i64.wrap ((k : Int) + 1)))) w' by kernel_rfl) (by rw [hadd])) ?_
            refine below_run (by kernel_rfl) (.slice (some ⟨g, 0, none⟩) (k + 1) ws.length) (fun w' hw' => exec_slice0 (.tmp 41) (.tmp 43) rfl ⟨g, 0, none⟩ ws.length ws.length (k + 1) (by kernel_rfl) (by kernel_rfl) hlt (by omega)) ?_
            refine below_call (by kernel_rfl) 33 #[.slice (some ⟨g, 0, none⟩) (k + 1) ws.length, .string ⟨#[32]⟩] (.string ⟨(joinW (cutW ws 0 (k + 1))).toArray⟩) (fun w' => by kernel_rfl) (fun w' hw' => (join_impl g 0 (k + 1) ws.length ws w' hlt (by omega) hcnt (by have := HCUT.out; omega) (HW3.out.next hw')).mono fun e w1 ⟨he, hb1⟩ => ⟨he, below_step hw' hb1⟩) ?_
            refine below_call (by kernel_rfl) 32 #[.agg (pcV p).toArray, .agg (fcV f (.slice A n c)).toArray, .string ⟨(joinW (cutW ws 0 (k + 1))).toArray⟩] (.int .i64 pr) (fun w' => by kernel_rfl) (fun w' hw' => (HCO.out w' hw').mono fun e w1 ⟨he, hb1⟩ => ⟨he, below_step hw' hb1⟩) ?_
            refine below_run (by kernel_rfl) (.int .i64 m) (fun w' hw' => by kernel_rfl) ?_
            by_cases hle : pr ≤ m
            · have HNX := Lib.hid (lead_yes hlt (show buyP f p ws m k = true by unfold buyP; rw [← HPR.out]; exact decide_eq_true hle))
              have hled : decide (pr ≤ m) = true := decide_eq_true hle
              refine below_run (by kernel_rfl) (.bool true) (fun w' hw' => Eq.trans (show (execOp _ _).run _ w' = .ok (.value (.bool (decide (pr ≤ m)))) w' by kernel_rfl) (by rw [hled])) ?_
              refine below_run (by kernel_rfl) (.bool true) (fun w' hw' => by kernel_rfl) ?_
              refine wpQuiet_nil ?_
              intro W3 hW3
              simp only [Act.put, List.setIfInBounds_toArray, List.set_cons_succ, List.set_cons_zero]
              have hbel := below_step hbel hW3
              clear hadd hW3 hlt2 hled
              go_wp2
              go_roundw
              case rel => exact ⟨k + 1, by omega, by go_num, HNX.out.symm.trans HLD.out, hbel⟩
              case measure => simp [intOf]; omega
            · have HNX := Lib.hid (lead_no hlt (show buyP f p ws m k = false by unfold buyP; rw [← HPR.out]; exact decide_eq_false hle))
              have hled : decide (pr ≤ m) = false := decide_eq_false hle
              refine below_run (by kernel_rfl) (.bool false) (fun w' hw' => Eq.trans (show (execOp _ _).run _ w' = .ok (.value (.bool (decide (pr ≤ m)))) w' by kernel_rfl) (by rw [hled])) ?_
              refine below_run (by kernel_rfl) (.bool false) (fun w' hw' => by kernel_rfl) ?_
              refine wpQuiet_nil ?_
              intro W3 hW3
              simp only [Act.put, List.setIfInBounds_toArray, List.set_cons_succ, List.set_cons_zero]
              have hbel := below_step hbel hW3
              have hB4 := hB2.trans (hbel.mono hB2.size)
              clear hadd hW3 hlt2 hled
              go_wp2
              go_ret2
              exact ⟨by have e := HLD.out; first | (rw [← e, HNX.out]; rfl) | (rw [Nat.sub_zero] at e; rw [← e, HNX.out]; rfl), hB4⟩
          · obtain rfl : k = ws.length := by omega
            have hlt2 : decide ((ws.length : Int) < (ws.length : Int)) = false := decide_eq_false (by omega)
            go_wp2
            refine region_below (wr.heap.size) (by kernel_rfl) (by kernel_rfl) ?_
            refine below_run (by kernel_rfl) (.int .i64 ws.length) (fun w' hw' => by kernel_rfl) ?_
            refine below_run (by kernel_rfl) (.slice (some ⟨g, 0, none⟩) ws.length ws.length) (fun w' hw' => by kernel_rfl) ?_
            refine below_run (by kernel_rfl) (.int .i64 ws.length) (fun w' hw' => by kernel_rfl) ?_
            refine below_run (by kernel_rfl) (.bool false) (fun w' hw' => Eq.trans (show (execOp _ _).run _ w' = .ok (.value (.bool (decide ((ws.length : Int) < (ws.length : Int))))) w' by kernel_rfl) (by rw [hlt2])) ?_
            refine below_run (by kernel_rfl) (.bool false) (fun w' hw' => by kernel_rfl) ?_
            refine BigFrame.wpQuiet_skip (by kernel_rfl) ?_
            refine BigFrame.wpQuiet_skip (by kernel_rfl) ?_
            refine BigFrame.wpQuiet_skip (by kernel_rfl) ?_
            refine BigFrame.wpQuiet_skip (by kernel_rfl) ?_
            refine BigFrame.wpQuiet_skip (by kernel_rfl) ?_
            refine BigFrame.wpQuiet_skip (by kernel_rfl) ?_
            refine BigFrame.wpQuiet_skip (by kernel_rfl) ?_
            refine BigFrame.wpQuiet_skip (by kernel_rfl) ?_
            refine BigFrame.wpQuiet_skip (by kernel_rfl) ?_
            refine BigFrame.wpQuiet_skip (by kernel_rfl) ?_
            refine below_run (by kernel_rfl) (.bool false) (fun w' hw' => by kernel_rfl) ?_
            refine wpQuiet_nil ?_
            intro W3 hW3
            simp only [Act.put, List.setIfInBounds_toArray, List.set_cons_succ, List.set_cons_zero]
            have hbel := below_step hbel hW3
            have hB4 := hB2.trans (hbel.mono hB2.size)
            clear hW3 hlt2
            go_wp2
            go_ret2
            exact ⟨by have e := HLD.out; first | (rw [← e, Nat.sub_self]; rfl) | (rw [Nat.sub_zero] at e; rw [← e, Nat.sub_self]; rfl), hB4⟩
  · have HO := Lib.hid (show wfR f p (bs s) m = (0, cd) by
      have h1 : ¬ pcC f p (bs s) true = 0 := fun h => h0 (hcd.trans h)
      unfold wfR
      rw [pcC_true h1, if_neg (by decide), hcd, pcC_true h1])
    clear hcd
    have HI := Lib.hid (rfl : inB 0 1000000 m = inB 0 1000000 m)
    rw [HO.out]
    go_enter Tryz.func10, Tryz.ntmps10
    go_wp2_with (first
      | (refine wpList_load_row rfl 36 (.tmp 4) rfl _ rfl 36 (fcV f (.slice A n c)).toArray _ _ hk1 Tryz.underlying36 rfl HZ.out ?_)
      | (refine wpList_load_row rfl 38 (.tmp 5) rfl _ rfl 38 (pcV p).toArray _ _ hk2 Tryz.underlying38 rfl HZ2.out ?_)
      | (go_at_call 29; refine (priceCode_any f p A _ n c 1 1 [bs s] _ HF.out HP.out HN.out hm rfl (by omega) HLS.out HS.out HSL0.out HM.out).mono ?_; rintro e w1 ⟨he, hb1⟩; rw [pccN_one, ← HC.out] at he; subst he; have c27 := (HK2.out.next hb1).cell 27 _ (pcV_base HP.out); clear hk1 hk2; have hk1 : True := trivial)
      | (go_at_call 30; refine (withinI_any _ _ _ _).mono ?_; rintro e w2 ⟨he, rfl⟩; rw [HI.out] at he; subst he)
      )
    go_ret2
    exact ⟨rfl, below_step HBB.out hb1⟩
end Go.Proofs.YtonnplaacebekaaGreatDoor
