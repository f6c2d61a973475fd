/- Contracts: prices, by the reference. -/
import Derived.Test.YtonnplaacebekaaGreatDoorPcP
import Derived.Test.YtonnplaacebekaaGreatDoorKpS
namespace Go.Proofs.YtonnplaacebekaaGreatDoor
open Go Go.RowKit
set_option linter.unusedVariables false
set_option linter.unusedSimpArgs false

set_option maxRecDepth 100000 in
theorem prices_spec (p : Pc) (b : Nat) (w : World) (hp : PcT p) (h : Blk w b 38 (pcV p)) :
    Calls Tryz.prog 41 #[.pointer (some ⟨b, 0, none⟩)] w fun e w' => e = .returned (.bool (pcOk p)) ∧ w = w' := by
  have HP := Lib.hid hp
  have HK := Lib.hid h
  have c26 := h.cell 26 _ (pcV_gold hp)
  have c27 := h.cell 27 _ (pcV_base hp)
  have c28 := h.cell 28 _ (pcV_fill hp)
  have t1 := hp.gold
  have t2 := hp.base
  have t3 := hp.fill
  clear hp h
  go_enter Tryz.func41, Tryz.ntmps41
  go_wp2
  go_loop [3] (fun i => ∃ k : Nat, k ≤ 26 ∧ i = .int .i64 k ∧ AllLt p k) (fun i => 26 - (intOf i).toNat)
  case atStart => exact ⟨0, by omega, rfl, allLt_zero _⟩
  case round =>
    obtain ⟨k, hk, rfl, hr⟩ := hrel
    have HR := Lib.hid hr
    clear hr
    by_cases hlt : k < 26
    · have hc := HK.out.cell k _ (pcV_lett HP.out k hlt)
      have tw := HP.out.lett k hlt
      cases hl : inB 0 1000 (rdI p.lett k)
      · have HQ := Lib.hid (pc_lt hlt hl)
        have HL := Lib.hid hl
        go_wp2_with (go_at_call 55; refine (inS_any _ _ _ _).mono ?_; rintro e w' ⟨rfl, rfl⟩)
        go_ret
        exact ⟨retB HQ.out.symm, rfl⟩
      · have HQ := Lib.hid (allLt_succ HR.out hl)
        have HL := Lib.hid hl
        go_wp2_with (go_at_call 55; refine (inS_any _ _ _ _).mono ?_; rintro e w' ⟨rfl, rfl⟩)
        go_round
        case rel => exact ⟨k + 1, by omega, by go_num, HQ.out⟩
        case measure => simp [intOf]; omega
    · obtain rfl : k = 26 := by omega
      have HA := Lib.hid (pc_all HR.out)
      cases hg : inB 0 1000 p.gold
      · have HQ := Lib.hid (show pcOk p = false by rw [HA.out, hg]; rfl)
        go_wp2_with (go_at_call 55; refine (inS_any _ _ _ _).mono ?_; rintro e w' ⟨rfl, rfl⟩)
        go_ret
        exact ⟨retB HQ.out.symm, rfl⟩
      · cases hb : inB 0 1000 p.base
        · have HQ := Lib.hid (show pcOk p = false by rw [HA.out, hg, hb]; rfl)
          go_wp2_with (go_at_call 55; refine (inS_any _ _ _ _).mono ?_; rintro e w' ⟨rfl, rfl⟩)
          go_ret
          exact ⟨retB HQ.out.symm, rfl⟩
        · have HQ := Lib.hid (show pcOk p = inB 0 1000 p.fill by rw [HA.out, hg, hb]; rfl)
          go_wp2_with (go_at_call 55; refine (inS_any _ _ _ _).mono ?_; rintro e w' ⟨rfl, rfl⟩)
          go_ret
          exact ⟨retB HQ.out.symm, rfl⟩

set_option maxRecDepth 100000 in
theorem pcTold_spec (f : Fc) (n b0 b : Nat) (p : Pc) (s : ByteArray) (fine : Bool) (w : World) (hf : FcT f) (hn : f.pairs.length = n) (hm : n ≤ 1048576) (hs : s.size ≤ 1048576) (hp : PcT p) (h : FcAt w b0 f n) (hb : Blk w b 38 (pcV p)) :
    Calls Tryz.prog 21 #[.pointer (some ⟨b0, 0, none⟩), .pointer (some ⟨b, 0, none⟩), .string s, .bool fine] w fun e w' => e = .returned (.int .i64 (pcC f p (bs s) fine)) ∧ Below w.heap.size w w' := by
  have HF := Lib.hid hf
  have HN := Lib.hid hn
  have HA := Lib.hid h
  have HB := Lib.hid hb
  have HP := Lib.hid hp
  clear hf hn h hb hp
  cases hv : validF f
  · have HO := Lib.hid (pcC_f (p := p) (l := bs s) (b := fine) hv)
    have HV := Lib.hid hv
    clear hv
    go_enter Tryz.func21, Tryz.ntmps21
    go_wp2_with (go_at_call 53; refine (face_spec f n b0 _ HF.out HN.out hm HA.out).mono ?_; rintro e w1 ⟨he, hb⟩; rw [HV.out] at he; subst he)
    go_ret
    exact ⟨retI HO.out.symm, hb⟩
  · have HV := Lib.hid hv
    cases hk : pcOk p
    · have HO := Lib.hid (pcC_p (f := f) (l := bs s) (b := fine) hk)
      have HK := Lib.hid hk
      clear hv hk
      go_enter Tryz.func21, Tryz.ntmps21
      go_wp2_with (first
        | (go_at_call 53; refine (face_spec f n b0 _ HF.out HN.out hm HA.out).mono ?_; rintro e w1 ⟨he, hb⟩; rw [HV.out] at he; subst he)
        | (go_at_call 41; refine (prices_spec p b _ HP.out (HB.out.next hb)).mono ?_; rintro e w2 ⟨he, rfl⟩; rw [HK.out] at he; subst he))
      go_ret
      exact ⟨retI HO.out.symm, hb⟩
    · have HK := Lib.hid hk
      cases ht : vText (bs s)
      · have HO := Lib.hid (pcC_t (f := f) (p := p) (b := fine) ht)
        have HT := Lib.hid ht
        clear hv hk ht
        go_enter Tryz.func21, Tryz.ntmps21
        go_wp2_with (first
          | (go_at_call 53; refine (face_spec f n b0 _ HF.out HN.out hm HA.out).mono ?_; rintro e w1 ⟨he, hb⟩; rw [HV.out] at he; subst he)
          | (go_at_call 41; refine (prices_spec p b _ HP.out (HB.out.next hb)).mono ?_; rintro e w2 ⟨he, rfl⟩; rw [HK.out] at he; subst he)
          | (go_at_call 54; refine (text_spec s _ hs).mono ?_; rintro e w2 ⟨he, rfl⟩; rw [HT.out] at he; subst he))
        go_ret
        exact ⟨retI HO.out.symm, hb⟩
      · have HO := Lib.hid (pcC_ok (b := fine) hv hk ht)
        have HT := Lib.hid ht
        clear hv hk ht
        cases fine
        all_goals
          go_enter Tryz.func21, Tryz.ntmps21
          go_wp2_with (first
            | (go_at_call 53; refine (face_spec f n b0 _ HF.out HN.out hm HA.out).mono ?_; rintro e w1 ⟨he, hb⟩; rw [HV.out] at he; subst he)
            | (go_at_call 41; refine (prices_spec p b _ HP.out (HB.out.next hb)).mono ?_; rintro e w2 ⟨he, rfl⟩; rw [HK.out] at he; subst he)
            | (go_at_call 54; refine (text_spec s _ hs).mono ?_; rintro e w2 ⟨he, rfl⟩; rw [HT.out] at he; subst he))
          go_ret
          exact ⟨retI HO.out.symm, hb⟩
end Go.Proofs.YtonnplaacebekaaGreatDoor
