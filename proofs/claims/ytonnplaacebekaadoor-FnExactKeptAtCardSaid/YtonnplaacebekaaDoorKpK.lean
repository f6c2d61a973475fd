/- Contracts: KeptAt, by the reference, by the program. -/
import Derived.Test.YtonnplaacebekaaDoorKpJ
import Derived.Test.YtonnplaacebekaaDoorKpT
import Derived.Test.YtonnplaacebekaaDoorGJ

namespace Go.Proofs.YtonnplaacebekaaDoor
open Go Go.RowKit
set_option linter.unusedVariables false
set_option linter.unusedSimpArgs false

set_option maxHeartbeats 1000000 in
set_option maxRecDepth 100000 in
theorem shiftCode_any (f : Fc) (A : Option Addr) (n c : Nat) (o s : ByteArray) (w : World) (hf : FcT f) (hn : f.pairs.length = n) (hm : n ≤ 1048576) (hos : o.size ≤ 1048576) (hs : s.size ≤ 1048576) (h : SlP w A f.pairs) (hmx : MaxW w) :
    Calls Tryd.prog 62 #[.agg (fcV f (.slice A n c)).toArray, .string o, .string s] w fun e w' => e = .returned (.int .i64 (kepC f (bs o) (bs s) true)) ∧ Below w.heap.size w w' := by
  have hB := below_one w (.cells (fcV f (.slice A n c)).toArray 36)
  have hk := Blk.new w 36 (fcV f (.slice A n c))
  have hsl := h.next hB
  have hmx := hmx.next hB
  have HF := Lib.hid hf
  have HN := Lib.hid hn
  have HS := Lib.hid hsl
  have HM := Lib.hid hmx
  have hsz : (fcV f (.slice A n c)).toArray.size = 29 := by simp [fcV_length hf]
  have HZ := Lib.hid (show (Tryd.prog.info? 36).map (·.size) = some (fcV f (.slice A n c)).toArray.size by rw [hsz]; exact szFcI)
  clear hf hn h hmx hsl hsz
  cases hv : validF f
  · have HO := Lib.hid (kepC_f (o := bs o) (w := bs s) (b := true) hv)
    go_enter Tryd.func62, Tryd.ntmps62
    go_wp2_with (first
      | (refine wpList_load_row rfl 36 (.tmp 3) rfl _ rfl 36 (fcV f (.slice A n c)).toArray _ _ hk Tryd.underlying36 rfl HZ.out ?_)
      | (go_at_call 83; refine (face_impl f A n c _ HF.out HN.out hm HS.out).mono ?_; rintro e w1 ⟨rfl, hb⟩; have hB := below_step hB hb; clear hb)
      | (go_at_call 82; refine (unless_any _ _ _).mono ?_; rintro e w2 ⟨rfl, rfl⟩))
    go_ret
    exact ⟨retI HO.out.symm, hB⟩
  · cases ht : vText (bs o)
    · have HO := Lib.hid (kepC_o (f := f) (w := bs s) (b := true) ht)
      have HT := Lib.hid ht
      go_enter Tryd.func62, Tryd.ntmps62
      go_wp2_with (first
        | (refine wpList_load_row rfl 36 (.tmp 3) rfl _ rfl 36 (fcV f (.slice A n c)).toArray _ _ hk Tryd.underlying36 rfl HZ.out ?_)
        | (go_at_call 83; refine (face_impl f A n c _ HF.out HN.out hm HS.out).mono ?_; rintro e w1 ⟨rfl, hb⟩; have hB := below_step hB hb; have hmx := HM.out.next hb; clear hb)
        | (go_at_call 85; refine (text_impl o _ hos hmx).mono ?_; rintro e w2 ⟨rfl, q, rfl⟩; have hB := below_drewN hB q)
        | (go_at_call 82; refine (unless_any _ _ _).mono ?_; rintro e w2 ⟨rfl, rfl⟩))
      go_ret
      exact ⟨retI HO.out.symm, hB⟩
    · cases hu : vText (bs s)
      · have HO := Lib.hid (kepC_w (f := f) (o := bs o) (b := true) hu)
        go_enter Tryd.func62, Tryd.ntmps62
        go_wp2_with (first
          | (refine wpList_load_row rfl 36 (.tmp 3) rfl _ rfl 36 (fcV f (.slice A n c)).toArray _ _ hk Tryd.underlying36 rfl HZ.out ?_)
          | (go_at_call 83; refine (face_impl f A n c _ HF.out HN.out hm HS.out).mono ?_; rintro e w1 ⟨rfl, hb⟩; have hB0 := below_step hB hb; have hB := hB0; have hmx := HM.out.next hb; clear hb; go_wp2_with fail; go_at_call 85; refine (text_impl o _ hos hmx).mono ?_; rintro e w2 ⟨rfl, q, rfl⟩; have hB := below_drewN hB q; have hmx := hmx.next (below_drewN (Below.refl _ _) q); go_wp2_with fail; go_at_call 85; refine (text_impl s _ hs hmx).mono ?_; rintro e w2 ⟨rfl, q2, rfl⟩; have hB := below_drewN hB q2; go_wp2_with (go_at_call 82; refine (unless_any _ _ _).mono ?_; rintro e w2 ⟨rfl, rfl⟩)))
        go_ret
        exact ⟨retI HO.out.symm, below_drewN hB0 _⟩
      · have HO := Lib.hid (kepC_ok (b := true) hv ht hu)
        go_enter Tryd.func62, Tryd.ntmps62
        go_wp2_with (first
          | (refine wpList_load_row rfl 36 (.tmp 3) rfl _ rfl 36 (fcV f (.slice A n c)).toArray _ _ hk Tryd.underlying36 rfl HZ.out ?_)
          | (go_at_call 83; refine (face_impl f A n c _ HF.out HN.out hm HS.out).mono ?_; rintro e w1 ⟨rfl, hb⟩; have hB0 := below_step hB hb; have hB := hB0; have hmx := HM.out.next hb; clear hb; go_wp2_with fail; go_at_call 85; refine (text_impl o _ hos hmx).mono ?_; rintro e w2 ⟨rfl, q, rfl⟩; have hB := below_drewN hB q; have hmx := hmx.next (below_drewN (Below.refl _ _) q); go_wp2_with fail; go_at_call 85; refine (text_impl s _ hs hmx).mono ?_; rintro e w2 ⟨rfl, q2, rfl⟩; have hB := below_drewN hB q2; go_wp2_with (go_at_call 82; refine (unless_any _ _ _).mono ?_; rintro e w2 ⟨rfl, rfl⟩)))
        go_ret
        exact ⟨retI HO.out.symm, below_drewN hB0 _⟩

theorem inB_400 {d : Int} (h : inB (-400) 400 d = true) : -400 ≤ d ∧ d ≤ 400 := inB_iff.1 h
set_option maxHeartbeats 1000000 in
set_option maxRecDepth 100000 in
theorem keptAt_spec (f : Fc) (A : Option Addr) (n c : Nat) (o s : ByteArray) (d : Int) (w : World) (hf : FcT f) (hn : f.pairs.length = n) (hm : n ≤ 1048576) (hos : o.size ≤ 1048576) (hs : s.size ≤ 1048576) (h : SlP w A f.pairs) :
    Calls Tryd.prog 29 #[.agg (fcV f (.slice A n c)).toArray, .string o, .string s, .int .i64 d] w (LcOut w (keptOut f (bs o) (bs s) d)) := by
  have hB := below_one w (.cells (fcV f (.slice A n c)).toArray 36)
  have hfa : FcAt (w.alloc (.cells (fcV f (.slice A n c)).toArray 36)) w.heap.size f n := ⟨A, c, Blk.new w 36 (fcV f (.slice A n c)), h.next hB⟩
  have hz := hB.size
  have HF := Lib.hid hf
  have HN := Lib.hid hn
  have HA := Lib.hid hfa
  clear hf hn h hfa
  obtain ⟨fb, hfb⟩ : ∃ fb, fb = inB (-400) 400 d := ⟨_, rfl⟩
  obtain ⟨cd, hcd⟩ : ∃ cd, cd = kepC f (bs o) (bs s) fb := ⟨_, rfl⟩
  have HB := Lib.hid hfb
  have HC := Lib.hid hcd
  by_cases h0 : cd = 0
  · have hz0 := hcd.symm.trans h0
    obtain ⟨hv, ht, hu, hb⟩ := kepC_zero hz0
    have HV := Lib.hid (validF_iff.1 hv)
    have HT := Lib.hid ht
    have HU := Lib.hid hu
    have HD := Lib.hid (inB_400 (hfb.symm.trans hb))
    have HO := Lib.hid (show keptOut f (bs o) (bs s) d = (kptR f (bs o) (bs s) d, 0) by unfold keptOut; rw [← hfb, if_pos hz0])
    subst h0
    clear hv ht hu hb hcd hz0 hfb
    rw [HO.out]
    go_enter Tryd.func29, Tryd.ntmps29
    go_wp2_with (first
      | (go_at_call 60; refine (inS_any _ _ _ _).mono ?_; rintro e w1 ⟨he, rfl⟩; rw [← HB.out] at he; subst he)
      | (go_at_call 59; refine (shiftC_spec f n w.heap.size o s fb _ HF.out HN.out hm hos hs HA.out).mono ?_; rintro e w1 ⟨he, hb1⟩; rw [← HC.out] at he; subst he)
      | (go_at_call 61; refine (kept_spec f n w.heap.size o s d _ HF.out HV.out HN.out hm hos hs HT.out HU.out HD.out (HA.out.next hb1)).mono ?_; rintro e w2 ⟨A2, c2, rfl, hb2, ho2⟩))
    go_ret2
    have hz1 := hb1.size
    exact ⟨A2, c2, rfl, below_step hB (below_step hb1 hb2), ho2.low (by omega)⟩
  · have HO := Lib.hid (show keptOut f (bs o) (bs s) d = ([], kepC f (bs o) (bs s) fb) by unfold keptOut; rw [← hfb, if_neg (fun h => h0 (hcd.trans h))])
    rw [HO.out, ← HC.out]
    clear hcd hfb
    go_enter Tryd.func29, Tryd.ntmps29
    go_wp2_with (first
      | (go_at_call 60; refine (inS_any _ _ _ _).mono ?_; rintro e w1 ⟨he, rfl⟩; rw [← HB.out] at he; subst he)
      | (go_at_call 59; refine (shiftC_spec f n w.heap.size o s fb _ HF.out HN.out hm hos hs HA.out).mono ?_; rintro e w1 ⟨he, hb1⟩; rw [← HC.out] at he; subst he))
    go_ret2
    exact ⟨_, _, rfl, below_step hB (below_step hb1 (below_one _ _)), OwnS.nil⟩

theorem kepC_true {f : Fc} {o w : List UInt8} (h : ¬ kepC f o w true = 0) (b : Bool) : kepC f o w b = kepC f o w true := by
  unfold kepC at h ⊢
  split
  · rename_i hh; rw [if_pos hh] at h; simp at h
  · rfl
set_option maxHeartbeats 1000000 in
set_option maxRecDepth 100000 in
theorem keptAt_impl (f : Fc) (A : Option Addr) (n c : Nat) (o s : ByteArray) (d : Int) (w : World) (hf : FcT f) (hn : f.pairs.length = n) (hm : n ≤ 1048576) (hos : o.size ≤ 1048576) (hs : s.size ≤ 1048576) (h : SlP w A f.pairs) (hmx : MaxW w) :
    Calls Tryd.prog 30 #[.agg (fcV f (.slice A n c)).toArray, .string o, .string s, .int .i64 d] w (LcOut w (keptOut f (bs o) (bs s) d)) := by
  have hB := below_one w (.cells (fcV f (.slice A n c)).toArray 36)
  have hk := Blk.new w 36 (fcV f (.slice A n c))
  have hz := hB.size
  have hsz : (fcV f (.slice A n c)).toArray.size = 29 := by simp [fcV_length hf]
  have HZ := Lib.hid (show (Tryd.prog.info? 36).map (·.size) = some (fcV f (.slice A n c)).toArray.size by rw [hsz]; exact szFcI)
  have HF := Lib.hid hf
  have HN := Lib.hid hn
  have HS := Lib.hid (h.next hB)
  have HM := Lib.hid (hmx.next hB)
  clear hf hn h hmx hsz
  obtain ⟨cd, hcd⟩ : ∃ cd, cd = kepC f (bs o) (bs s) true := ⟨_, rfl⟩
  have HC := Lib.hid hcd
  by_cases h0 : cd = 0
  · have hz0 := hcd.symm.trans h0
    obtain ⟨hv, ht, hu, _⟩ := kepC_zero hz0
    have HV := Lib.hid (validF_iff.1 hv)
    have HT := Lib.hid ht
    have HU := Lib.hid hu
    subst h0
    cases hb : inB (-400) 400 d
    · have HB := Lib.hid hb
      have HO := Lib.hid (show keptOut f (bs o) (bs s) d = ([], 2) by unfold keptOut; rw [hb, kepC_ok hv ht hu]; rfl)
      clear hv ht hu hb hcd hz0
      rw [HO.out]
      go_enter Tryd.func30, Tryd.ntmps30
      go_wp2_with (first
        | (refine wpList_load_row rfl 36 (.tmp 4) rfl _ rfl 36 (fcV f (.slice A n c)).toArray _ _ hk Tryd.underlying36 rfl HZ.out ?_)
        | (go_at_call 62; refine (shiftCode_any f A n c o s _ HF.out HN.out hm hos hs HS.out HM.out).mono ?_; rintro e w1 ⟨he, hb1⟩; rw [← HC.out] at he; subst he)
        | (go_at_call 63; refine (withinI_any _ _ _ _).mono ?_; rintro e w2 ⟨he, rfl⟩; rw [HB.out] at he; subst he))
      go_ret2
      exact ⟨_, _, rfl, below_step hB hb1, OwnS.nil⟩
    · have HB := Lib.hid hb
      have HD := Lib.hid (inB_400 hb)
      have HO := Lib.hid (show keptOut f (bs o) (bs s) d = (kptR f (bs o) (bs s) d, 0) by unfold keptOut; rw [hb, if_pos hz0])
      clear hv ht hu hb hcd hz0
      rw [HO.out]
      go_enter Tryd.func30, Tryd.ntmps30
      go_wp2_with (first
        | (refine wpList_load_row rfl 36 (.tmp 4) rfl _ rfl 36 (fcV f (.slice A n c)).toArray _ _ hk Tryd.underlying36 rfl HZ.out ?_)
        | (go_at_call 62; refine (shiftCode_any f A n c o s _ HF.out HN.out hm hos hs HS.out HM.out).mono ?_; rintro e w1 ⟨he, hb1⟩; rw [← HC.out] at he; subst he; have hk := hk.next hb1)
        | (go_at_call 63; refine (withinI_any _ _ _ _).mono ?_; rintro e w2 ⟨he, rfl⟩; rw [HB.out] at he; subst he)
        | (go_at_call 64; refine (kept_impl f A n c o s d _ HF.out HV.out HN.out hm hos hs HT.out HU.out HD.out (HS.out.next hb1) (HM.out.next hb1)).mono ?_; rintro e w2 ⟨A2, c2, rfl, hb2, ho2⟩))
      go_ret2
      have hz1 := hb1.size
      exact ⟨A2, c2, rfl, below_step hB (below_step hb1 hb2), ho2.low (by omega)⟩
  · have HO := Lib.hid (show keptOut f (bs o) (bs s) d = ([], kepC f (bs o) (bs s) true) by
      have h1 : ¬ kepC f (bs o) (bs s) true = 0 := fun h => h0 (hcd.trans h)
      unfold keptOut
      rw [kepC_true h1, if_neg h1])
    rw [HO.out, ← HC.out]
    clear hcd
    go_enter Tryd.func30, Tryd.ntmps30
    go_wp2_with (first
      | (refine wpList_load_row rfl 36 (.tmp 4) rfl _ rfl 36 (fcV f (.slice A n c)).toArray _ _ hk Tryd.underlying36 rfl HZ.out ?_)
      | (go_at_call 62; refine (shiftCode_any f A n c o s _ HF.out HN.out hm hos hs HS.out HM.out).mono ?_; rintro e w1 ⟨he, hb1⟩; rw [← HC.out] at he; subst he))
    go_ret2
    exact ⟨_, _, rfl, below_step hB hb1, OwnS.nil⟩
end Go.Proofs.YtonnplaacebekaaDoor
