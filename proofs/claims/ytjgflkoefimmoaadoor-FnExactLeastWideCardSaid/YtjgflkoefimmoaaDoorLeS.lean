/- Contracts: the least width, by the reference. -/
import Derived.Test.YtjgflkoefimmoaaDoorLeP
import Derived.Test.YtjgflkoefimmoaaDoorGbS
namespace Go.Proofs.YtjgflkoefimmoaaDoor
open Go Go.RowKit
set_option linter.unusedVariables false
set_option linter.unusedSimpArgs false

/-- The least width, and a code. -/
def LeOut (f : Fc) (l : List UInt8) (n : Int) (w : World) (e : Ending) (w' : World) : Prop := ∃ r cd, e = .returned (.tuple #[.int .i64 r, .int .i64 cd]) ∧ LeR f l n r cd ∧ Below w.heap.size w w'

set_option maxHeartbeats 2000000 in
set_option maxRecDepth 100000 in
theorem least_spec (f : Fc) (A : Option Addr) (n c : Nat) (s : ByteArray) (m : Int) (w : World) (hf : FcT f) (hn : f.pairs.length = n) (hm : n ≤ 1048576) (hs : s.size ≤ 1048576) (h : SlP w A f.pairs) :
    Calls Tryd.prog 25 #[.agg (fcV f (.slice A n c)).toArray, .string s, .int .i64 m] w (LeOut f (bs s) m w) := by
  have hB := below_one w (.cells (fcV f (.slice A n c)).toArray 33)
  have hk := Blk.new w 33 (fcV f (.slice A n c))
  have hfa : FcAt (w.alloc (.cells (fcV f (.slice A n c)).toArray 33)) w.heap.size f n := ⟨A, c, hk, h.next hB⟩
  have HF := Lib.hid hf
  have HN := Lib.hid hn
  have HA := Lib.hid hfa
  clear hf hn h hfa hk
  obtain ⟨cd, hcd⟩ : ∃ cd, cd = askC f (bs s) (inB 1 60 m) := ⟨_, rfl⟩
  have HC := Lib.hid hcd
  by_cases h0 : cd = 0
  · obtain ⟨hv, ht, hinn⟩ := askC_zero (hcd.symm.trans h0)
    have hm1 := inB_iff.1 hinn
    clear hinn
    have HVV := Lib.hid (validF_iff.1 hv)
    have HW := Lib.hid (ws_words ht)
    have hcnt := words_count ht
    subst h0
    clear hv ht hcd
    go_enter Tryd.func25, Tryd.ntmps25
    go_wp2_with (first
      | (go_at_call 61; refine (inS_any _ _ _ _).mono ?_; rintro e w0 ⟨rfl, rfl⟩)
      | (go_at_call 51; refine (asked_spec f n w.heap.size s _ _ HF.out HN.out hm hs HA.out).mono ?_; rintro e w1 ⟨he, hb⟩; rw [← HC.out] at he; subst he; have hb1 := hb; clear hb)
      | (go_at_call 52; refine (words_spec s _ hs).mono ?_; rintro e w2 ⟨A1, c1, rfl, hc1, hb2, hsl, hA1⟩))
    have HA2 := Lib.hid ((HA.out.next hb1).next hb2)
    have hB2 := below_step (below_step hB hb1) hb2
    have HSL := Lib.hid hsl
    have HG := Lib.hid hA1
    clear hb1 hb2 hsl HA hB hA1
    obtain ⟨b0, hb0⟩ : ∃ b0, b0 = w.heap.size := ⟨_, rfl⟩
    rw [← hb0] at HA2 ⊢
    clear hb0
    obtain ⟨ws, hW⟩ : ∃ ws, ws = words (bs s) := ⟨_, rfl⟩
    have HWS := Lib.hid hW
    rw [← hW] at hcnt hc1 HW HSL HG ⊢
    clear hW
    have htop := lnW_range HVV.out HW.out 0 ws.length
    have HTOP := Lib.hid (leOk_top HVV.out HW.out (show (1 : Int) ≤ m by omega))
    generalize lnW f ws 0 ws.length = top at *
    go_loopw [10] (fun i wr => ∃ x : Int, 0 ≤ x ∧ x ≤ top ∧ i = .int .i64 x ∧ NoLe f ws m x ∧ Below w2.heap.size w2 wr) (fun i _ => (top - intOf i).toNat)
    case atStart => exact ⟨0, Int.le_refl _, htop.1, rfl, fun j h0 h1 => by omega, Below.refl _ _⟩
    case round =>
      obtain ⟨x, hx0, hx, rfl, hall, hbel⟩ := hrel
      have HALL := Lib.hid hall
      clear hall
      have HA3 := Lib.hid (HA2.out.next hbel)
      have HSL3 := Lib.hid (HSL.out.next hbel)
      cases hfit : fits f ws x
      · have HX := Lib.hid (noLe_succ HALL.out (fun h => by have h1 := h.1; rw [hfit] at h1; exact absurd h1 (by decide)))
        have hlt : x < top := by
          rcases Int.lt_or_eq_of_le hx with h | h
          · exact h
          · have h1 := HTOP.out.1
            rw [← h, hfit] at h1; cases h1
        have HFT := Lib.hid hfit
        clear hfit
        go_wp2_with (go_at_call 62; refine (fits_spec f n b0 A1 c1 ws x _ HF.out HVV.out HN.out hm HW.out HA3.out HSL3.out).mono ?_; rintro e w3 ⟨he, hb3⟩; rw [HFT.out] at he; subst he; have hbel := below_step hbel hb3; clear hb3)
        go_roundw
        case rel => exact ⟨x + 1, by omega, by omega, by go_num, HX.out, hbel⟩
        case measure => simp [intOf]; omega
      · have H1 := Lib.hid (grd_first hx0 hfit)
        have hgr := (grd_range f ws x ws.length).2
        by_cases hge : m ≤ ((grd f ws x ws.length).1.length : Int)
        · have HX := Lib.hid (noLe_succ HALL.out (fun h => by have := h.2; omega))
          have hlt : x < top := by
            rcases Int.lt_or_eq_of_le hx with h | h
            · exact h
            · have h1 := HTOP.out.2
              rw [← h] at h1; omega
          have HFT := Lib.hid hfit
          clear hfit
          go_wp2_with (first
            | (go_at_call 62; refine (fits_spec f n b0 A1 c1 ws x _ HF.out HVV.out HN.out hm HW.out HA3.out HSL3.out).mono ?_; rintro e w3 ⟨he, hb3⟩; rw [HFT.out] at he; subst he)
            | (go_at_call 63; refine (greedy_spec f n b0 A1 c1 ws x _ HF.out HVV.out HN.out hm HW.out (HA3.out.next hb3) (HSL3.out.next hb3) HG.out hc1 H1.out).mono ?_; rintro e w4 ⟨A4, c4, rfl, hb4, _⟩; have hbel := below_step (below_step hbel hb3) hb4; clear hb3 hb4))
          go_roundw
          case rel => exact ⟨x + 1, by omega, by omega, by go_num, HX.out, hbel⟩
          case measure => simp [intOf]; omega
        · have HX := Lib.hid (show LeAt f ws m x from ⟨hx0, ⟨hfit, by omega⟩, HALL.out⟩)
          have HFT := Lib.hid hfit
          clear hfit
          go_wp2_with (first
            | (go_at_call 62; refine (fits_spec f n b0 A1 c1 ws x _ HF.out HVV.out HN.out hm HW.out HA3.out HSL3.out).mono ?_; rintro e w3 ⟨he, hb3⟩; rw [HFT.out] at he; subst he)
            | (go_at_call 63; refine (greedy_spec f n b0 A1 c1 ws x _ HF.out HVV.out HN.out hm HW.out (HA3.out.next hb3) (HSL3.out.next hb3) HG.out hc1 H1.out).mono ?_; rintro e w4 ⟨A4, c4, rfl, hb4, _⟩; have hbel := below_step (below_step hbel hb3) hb4; clear hb3 hb4))
          go_ret2
          exact ⟨_, _, rfl, ⟨HC.out, .inr ⟨rfl, by rw [← HWS.out]; exact HX.out⟩⟩, hB2.trans (hbel.mono hB2.size)⟩
  · clear hcd
    go_enter Tryd.func25, Tryd.ntmps25
    go_wp2_with (first
      | (go_at_call 61; refine (inS_any _ _ _ _).mono ?_; rintro e w0 ⟨rfl, rfl⟩)
      | (go_at_call 51; refine (asked_spec f n w.heap.size s _ _ HF.out HN.out hm hs HA.out).mono ?_; rintro e w1 ⟨he, hb⟩; rw [← HC.out] at he; subst he; have hB := below_step hB hb; clear hb))
    go_ret2
    exact ⟨_, _, rfl, ⟨HC.out, .inl ⟨h0, rfl⟩⟩, hB⟩
end Go.Proofs.YtjgflkoefimmoaaDoor
