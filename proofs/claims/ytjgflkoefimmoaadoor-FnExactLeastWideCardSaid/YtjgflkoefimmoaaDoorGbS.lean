/- Contracts: greedy breaks and how many lines at least, by the reference. -/
import Derived.Test.YtjgflkoefimmoaaDoorGrS
namespace Go.Proofs.YtjgflkoefimmoaaDoor
open Go Go.RowKit
set_option linter.unusedVariables false
set_option linter.unusedSimpArgs false

theorem room2_spec (f : Fc) (n b0 : Nat) (s : ByteArray) (m : Int) (w : World) (hf : FcT f) (hn : f.pairs.length = n) (hm : n ≤ 1048576) (hs : s.size ≤ 1048576) (h : FcAt w b0 f n) :
    Calls Tryd.prog 69 #[.pointer (some ⟨b0, 0, none⟩), .string s, .int .i64 m] w fun e w' => e = .returned (.int .i64 (askC f (bs s) (inB 0 4000 m))) ∧ Below w.heap.size w w' := by
  go_enter Tryd.func69, Tryd.ntmps69
  go_wp2_with (first
    | (go_at_call 57; refine (room_spec _ _).mono ?_; rintro e w0 ⟨rfl, rfl⟩)
    | (go_at_call 51; refine (asked_spec f n b0 s _ _ hf hn hm hs h).mono ?_; rintro e w1 ⟨rfl, hb⟩))
  go_ret
  exact ⟨rfl, hb⟩

/-- The code of a face, a text and a width in which each word has to fit. -/
def fndC (f : Fc) (l : List UInt8) (m : Int) : Int := if askC f l (inB 0 4000 m) = 0 then (if fits f (words l) m then 0 else 6) else askC f l (inB 0 4000 m)
theorem fndC_no {f : Fc} {l : List UInt8} {m : Int} (h : ¬ askC f l (inB 0 4000 m) = 0) : fndC f l m = askC f l (inB 0 4000 m) := by unfold fndC; rw [if_neg h]
theorem fndC_bad {f : Fc} {l : List UInt8} {m : Int} (h : askC f l (inB 0 4000 m) = 0) (k : fits f (words l) m = false) : fndC f l m = 6 := by unfold fndC; rw [if_pos h, k]; rfl
theorem fndC_ok {f : Fc} {l : List UInt8} {m : Int} (h : askC f l (inB 0 4000 m) = 0) (k : fits f (words l) m = true) : fndC f l m = 0 := by unfold fndC; rw [if_pos h, k]; rfl
theorem brk_code (f : Fc) (l : List UInt8) (m : Int) : (brkOut f l m).2 = fndC f l m := by
  by_cases h : askC f l (inB 0 4000 m) = 0
  · cases k : fits f (words l) m
    · rw [brkOut_bad h k, fndC_bad h k]
    · rw [brkOut_ok h k, fndC_ok h k]
  · rw [brkOut_no h, fndC_no h]
theorem fndC_zero {f : Fc} {l : List UInt8} {m : Int} (h : fndC f l m = 0) : validF f = true ∧ vText l = true ∧ 0 ≤ m ∧ m ≤ 4000 ∧ fits f (words l) m = true := by
  unfold fndC at h
  split at h
  · rename_i h0
    split at h
    · rename_i h1
      obtain ⟨a, b, c⟩ := askC_zero h0
      have := inB_iff.1 c
      exact ⟨a, b, this.1, this.2, h1⟩
    · omega
  · rename_i h0; exact absurd h h0

set_option maxHeartbeats 1000000 in
set_option maxRecDepth 100000 in
theorem found_spec (f : Fc) (n b0 : Nat) (s : ByteArray) (m : Int) (w : World) (hf : FcT f) (hn : f.pairs.length = n) (hm : n ≤ 1048576) (hs : s.size ≤ 1048576) (h : FcAt w b0 f n) :
    Calls Tryd.prog 68 #[.pointer (some ⟨b0, 0, none⟩), .string s, .int .i64 m] w fun e w' => e = .returned (.int .i64 (fndC f (bs s) m)) ∧ Below w.heap.size w w' := by
  have HF := Lib.hid hf
  have HN := Lib.hid hn
  have HA := Lib.hid h
  clear hf hn h
  obtain ⟨cd, hcd⟩ : ∃ cd, cd = askC f (bs s) (inB 0 4000 m) := ⟨_, rfl⟩
  have HC := Lib.hid hcd
  by_cases h0 : cd = 0
  · obtain ⟨hv, ht, hinn⟩ := askC_zero (hcd.symm.trans h0)
    clear hinn
    have HVV := Lib.hid (validF_iff.1 hv)
    have HW := Lib.hid (ws_words ht)
    subst h0
    clear hv ht hcd
    cases hfit : fits f (words (bs s)) m
    · have HO := Lib.hid (fndC_bad HC.out.symm hfit)
      have HFT := Lib.hid hfit
      clear hfit
      go_enter Tryd.func68, Tryd.ntmps68
      go_wp2_with (first
        | (go_at_call 69; refine (room2_spec f n b0 s m _ HF.out HN.out hm hs HA.out).mono ?_; rintro e w1 ⟨he, hb⟩; rw [← HC.out] at he; subst he; have hb1 := hb; clear hb)
        | (go_at_call 52; refine (words_spec s _ hs).mono ?_; rintro e w2 ⟨A1, c1, rfl, hc1, hb2, hsl, _⟩)
        | (go_at_call 62; refine (fits_spec f n b0 A1 c1 (words (bs s)) m _ HF.out HVV.out HN.out hm HW.out ((HA.out.next hb1).next hb2) hsl).mono ?_; rintro e w3 ⟨he, hb3⟩; rw [HFT.out] at he; subst he))
      go_ret
      exact ⟨retI HO.out.symm, below_step (below_step hb1 hb2) hb3⟩
    · have HO := Lib.hid (fndC_ok HC.out.symm hfit)
      have HFT := Lib.hid hfit
      clear hfit
      go_enter Tryd.func68, Tryd.ntmps68
      go_wp2_with (first
        | (go_at_call 69; refine (room2_spec f n b0 s m _ HF.out HN.out hm hs HA.out).mono ?_; rintro e w1 ⟨he, hb⟩; rw [← HC.out] at he; subst he; have hb1 := hb; clear hb)
        | (go_at_call 52; refine (words_spec s _ hs).mono ?_; rintro e w2 ⟨A1, c1, rfl, hc1, hb2, hsl, _⟩)
        | (go_at_call 62; refine (fits_spec f n b0 A1 c1 (words (bs s)) m _ HF.out HVV.out HN.out hm HW.out ((HA.out.next hb1).next hb2) hsl).mono ?_; rintro e w3 ⟨he, hb3⟩; rw [HFT.out] at he; subst he))
      go_ret
      exact ⟨retI HO.out.symm, below_step (below_step hb1 hb2) hb3⟩
  · have HO := Lib.hid (fndC_no (f := f) (l := bs s) (m := m) (by rw [← hcd]; exact h0))
    clear hcd
    go_enter Tryd.func68, Tryd.ntmps68
    go_wp2_with (go_at_call 69; refine (room2_spec f n b0 s m _ HF.out HN.out hm hs HA.out).mono ?_; rintro e w1 ⟨he, hb⟩; rw [← HC.out] at he; subst he; have hb1 := hb; clear hb)
    go_ret
    exact ⟨retI (by rw [HO.out, HC.out]), hb1⟩

set_option maxHeartbeats 1000000 in
set_option maxRecDepth 100000 in
theorem greedyB_spec (f : Fc) (A : Option Addr) (n c : Nat) (s : ByteArray) (m : Int) (w : World) (hf : FcT f) (hn : f.pairs.length = n) (hm : n ≤ 1048576) (hs : s.size ≤ 1048576) (h : SlP w A f.pairs) :
    Calls Tryd.prog 31 #[.agg (fcV f (.slice A n c)).toArray, .string s, .int .i64 m] w (ListOut w (brkOut f (bs s) m).1 (brkOut f (bs s) m).2) := by
  have hB := below_one w (.cells (fcV f (.slice A n c)).toArray 33)
  have hk := Blk.new w 33 (fcV f (.slice A n c))
  have hfa : FcAt (w.alloc (.cells (fcV f (.slice A n c)).toArray 33)) w.heap.size f n := ⟨A, c, hk, h.next hB⟩
  have HF := Lib.hid hf
  have HN := Lib.hid hn
  have HA := Lib.hid hfa
  have HBC := Lib.hid (brk_code f (bs s) m)
  clear hf hn h hfa hk
  obtain ⟨cd, hcd⟩ : ∃ cd, cd = fndC f (bs s) m := ⟨_, rfl⟩
  have HC := Lib.hid hcd
  by_cases h0 : cd = 0
  · obtain ⟨hv, ht, hm0, hm1, hfit⟩ := fndC_zero (hcd.symm.trans h0)
    have HVV := Lib.hid (validF_iff.1 hv)
    have HW := Lib.hid (ws_words ht)
    have hcnt := words_count ht
    have HO := Lib.hid (brkOut_ok (f := f) (l := bs s) (m := m) (by rw [askC_ok hv ht, inB_true ⟨hm0, hm1⟩]; rfl) hfit)
    have H1 := Lib.hid (grd_first hm0 hfit)
    subst h0
    clear hv ht hcd hfit
    go_enter Tryd.func31, Tryd.ntmps31
    go_wp2_with (first
      | (go_at_call 68; refine (found_spec f n w.heap.size s m _ HF.out HN.out hm hs HA.out).mono ?_; rintro e w1 ⟨he, hb⟩; rw [← HC.out] at he; subst he; have hb1 := hb; clear hb)
      | (go_at_call 52; refine (words_spec s _ hs).mono ?_; rintro e w2 ⟨A1, c1, rfl, hc1, hb2, hsl, hA1⟩)
      | (go_at_call 63; refine (greedy_spec f n w.heap.size A1 c1 (words (bs s)) m _ HF.out HVV.out HN.out hm HW.out ((HA.out.next hb1).next hb2) hsl hA1 hc1 H1.out).mono ?_; rintro e w3 ⟨A3, c3, rfl, hb3, ho3⟩))
    go_ret2
    have hb12 := below_step (below_step hB hb1) hb2
    refine ⟨A3, c3, by rw [HO.out]; rfl, below_step hb12 hb3, ?_⟩
    rw [HO.out]
    exact fun hn => by
      obtain ⟨g, cs, e, h1, h2, h3⟩ := ho3 hn
      exact ⟨g, cs, e, Nat.le_trans hb12.size h1, h2, h3⟩
  · have HL := Lib.hid (show (brkOut f (bs s) m).1 = [] by
      by_cases h : askC f (bs s) (inB 0 4000 m) = 0
      · cases k : fits f (words (bs s)) m
        · rw [brkOut_bad h k]
        · exact absurd (hcd.trans (fndC_ok h k)) h0
      · rw [brkOut_no h])
    clear hcd
    go_enter Tryd.func31, Tryd.ntmps31
    go_wp2_with (go_at_call 68; refine (found_spec f n w.heap.size s m _ HF.out HN.out hm hs HA.out).mono ?_; rintro e w1 ⟨he, hb⟩; rw [← HC.out] at he; subst he; have hB := below_step hB hb; clear hb)
    go_ret2
    refine ⟨some ⟨w1.heap.size, 0, none⟩, 0, ?_, step_alloc hB _, ?_⟩
    · rw [HL.out, HBC.out, ← HC.out]; rfl
    · rw [HL.out]; exact OwnS.nil
end Go.Proofs.YtjgflkoefimmoaaDoor
