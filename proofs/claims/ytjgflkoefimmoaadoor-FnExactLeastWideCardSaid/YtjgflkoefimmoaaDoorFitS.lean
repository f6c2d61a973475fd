/- Contracts: as many words as fit, by the reference. -/
import Derived.Test.YtjgflkoefimmoaaDoorLnS
namespace Go.Proofs.YtjgflkoefimmoaaDoor
open Go Go.RowKit
set_option linter.unusedVariables false
set_option linter.unusedSimpArgs false

/-- As many words as fit, and a code. -/
def FitOut (f : Fc) (l : List UInt8) (m : Int) (w : World) (e : Ending) (w' : World) : Prop := ∃ r cd, e = .returned (.tuple #[.int .i64 r, .int .i64 cd]) ∧ FitR f l m r cd ∧ Below w.heap.size w w'

set_option maxHeartbeats 2000000 in
set_option maxRecDepth 100000 in
theorem longest_spec (f : Fc) (A : Option Addr) (n c : Nat) (s : ByteArray) (m : Int) (w : World) (hf : FcT f) (hn : f.pairs.length = n) (hm : n ≤ 1048576) (hs : s.size ≤ 1048576) (h : SlP w A f.pairs) :
    Calls Tryd.prog 23 #[.agg (fcV f (.slice A n c)).toArray, .string s, .int .i64 m] w (FitOut f (bs s) m w) := by
  have hB := below_one w (.cells (fcV f (.slice A n c)).toArray 33)
  have hk := Blk.new w 33 (fcV f (.slice A n c))
  have hfa : FcAt (w.alloc (.cells (fcV f (.slice A n c)).toArray 33)) w.heap.size f n := ⟨A, c, hk, h.next hB⟩
  have HF := Lib.hid hf
  have HN := Lib.hid hn
  have HA := Lib.hid hfa
  clear hf hn h hfa hk
  obtain ⟨cd, hcd⟩ : ∃ cd, cd = askC f (bs s) (inB 0 4000 m) := ⟨_, rfl⟩
  have HC := Lib.hid hcd
  by_cases h0 : cd = 0
  · obtain ⟨hv, ht, hinn⟩ := askC_zero (hcd.symm.trans h0)
    clear hinn
    have HVV := Lib.hid (validF_iff.1 hv)
    have HW := Lib.hid (ws_words ht)
    have hcnt := words_count ht
    subst h0
    clear hv ht hcd
    go_enter Tryd.func23, Tryd.ntmps23
    go_wp2_with (first
      | (go_at_call 57; refine (room_spec _ _).mono ?_; rintro e w0 ⟨rfl, rfl⟩)
      | (go_at_call 51; refine (asked_spec f n w.heap.size s _ _ HF.out HN.out hm hs HA.out).mono ?_; rintro e w1 ⟨he, hb⟩; rw [← HC.out] at he; subst he; have hb1 := hb; clear hb)
      | (go_at_call 52; refine (words_spec s _ hs).mono ?_; rintro e w2 ⟨A1, c1, rfl, hc1, hb2, hsl, hA1⟩))
    have HA2 := Lib.hid ((HA.out.next hb1).next hb2)
    have hB2 := below_step (below_step hB hb1) hb2
    have HSL := Lib.hid hsl
    have HG := Lib.hid hA1
    clear hb1 hb2 hsl HA hB hA1
    obtain ⟨b0, hb0⟩ : ∃ b0, b0 = w.heap.size := ⟨_, rfl⟩
    rw [← hb0] at HA2 ⊢
    clear hb0
    obtain ⟨ws, hW⟩ : ∃ ws, ws = words (bs s) := ⟨_, rfl⟩
    have HWS := Lib.hid hW
    rw [← hW] at hcnt hc1 HW HSL HG ⊢
    clear hW
    go_loopw [10] (fun i wr => ∃ k : Nat, k ≤ ws.length ∧ i = .int .i64 k ∧ AllFit f ws m k ∧ Below w2.heap.size w2 wr) (fun i _ => ws.length - (intOf i).toNat)
    case atStart => exact ⟨0, Nat.zero_le _, rfl, fun j hj => by omega, Below.refl _ _⟩
    case round =>
      obtain ⟨k, hk, rfl, hall, hbel⟩ := hrel
      have HALL := Lib.hid hall
      clear hall
      by_cases hlt : k < ws.length
      · obtain ⟨g, rfl⟩ := HG.out (by omega)
        have hcut : (cutW ws 0 (k + 1)).length = k + 1 := cutW_length hlt
        have HCUT := Lib.hid hcut
        have HSC := Lib.hid (show SlE sv wr (some ⟨g, 0, none⟩) (cutW ws 0 (k + 1)) from slE_cut (HSL.out.next hbel) 0 (k + 1))
        have HA3 := Lib.hid (HA2.out.next hbel)
        have hadd : IntKind.i64.wrap ((k : Int) + 1) = ((k + 1 : Nat) : Int) := by rw [IntWalk.i64_in _ (by omega)]; omega
        clear hcut
        by_cases hle : lnW f ws 0 (k + 1) ≤ m
        · have HNX := Lib.hid (allFit_succ HALL.out hle)
          go_wp2_with (first
            | (go_at_call 58; refine (line_specN f n b0 _ _ (cutW ws 0 (k + 1)) (k + 1) _ HF.out HVV.out HN.out hm (HW.out.cut _ _) HA3.out HSC.out HCUT.out).mono ?_; rintro e w3 ⟨he, hb3⟩; change e = .returned (.int .i64 (lnW f ws 0 (k + 1))) at he; subst he; have hbel := below_step hbel hb3; clear hb3))
          go_roundw
          case rel => exact ⟨k + 1, by omega, by go_num, HNX.out, hbel⟩
          case measure => simp [intOf]; omega
        · go_wp2_with (go_at_call 58; refine (line_specN f n b0 _ _ (cutW ws 0 (k + 1)) (k + 1) _ HF.out HVV.out HN.out hm (HW.out.cut _ _) HA3.out HSC.out HCUT.out).mono ?_; rintro e w3 ⟨he, hb3⟩; change e = .returned (.int .i64 (lnW f ws 0 (k + 1))) at he; subst he; have hbel := below_step hbel hb3; clear hb3)
          go_ret2
          exact ⟨_, _, rfl, ⟨HC.out, .inr ⟨rfl, k, rfl, by rw [← HWS.out]; exact ⟨hk, HALL.out, fun _ => by omega⟩⟩⟩, hB2.trans (hbel.mono hB2.size)⟩
      · obtain rfl : k = ws.length := by omega
        go_wp2
        go_ret2
        exact ⟨_, _, rfl, ⟨HC.out, .inr ⟨rfl, _, rfl, by rw [← HWS.out]; exact ⟨Nat.le_refl _, HALL.out, fun h => by omega⟩⟩⟩, hB2.trans (hbel.mono hB2.size)⟩
  · clear hcd
    go_enter Tryd.func23, Tryd.ntmps23
    go_wp2_with (first
      | (go_at_call 57; refine (room_spec _ _).mono ?_; rintro e w0 ⟨rfl, rfl⟩)
      | (go_at_call 51; refine (asked_spec f n w.heap.size s _ _ HF.out HN.out hm hs HA.out).mono ?_; rintro e w1 ⟨he, hb⟩; rw [← HC.out] at he; subst he; have hB := below_step hB hb; clear hb))
    go_ret2
    exact ⟨_, _, rfl, ⟨HC.out, .inl ⟨h0, rfl⟩⟩, hB⟩
end Go.Proofs.YtjgflkoefimmoaaDoor
