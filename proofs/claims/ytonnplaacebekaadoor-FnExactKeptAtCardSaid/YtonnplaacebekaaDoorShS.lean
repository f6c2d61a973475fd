/- Contracts: sheets, by the reference. -/
import Derived.Test.YtonnplaacebekaaDoorShP
import Derived.Test.YtonnplaacebekaaDoorGF
namespace Go.Proofs.YtonnplaacebekaaDoor
open Go Go.RowKit
set_option linter.unusedVariables false
set_option linter.unusedSimpArgs false

/-- A sheet of Go's. -/
structure ShT (s : Sh) : Prop where
  wide : -32768 ≤ s.wide ∧ s.wide ≤ 32767
  over : -128 ≤ s.over ∧ s.over ≤ 127
def shV (s : Sh) : List Value := [.int .i16 s.wide, .int .i8 s.over]
theorem shC_f {f : Fc} {s : Sh} {l : List UInt8} (h : validF f = false) : shC f s l = 1 := by unfold shC; rw [h]; rfl
theorem shC_s {f : Fc} {s : Sh} {l : List UInt8} (h : shOk s = false) : shC f s l = 1 := by unfold shC; rw [h]; simp
theorem shC_t {f : Fc} {s : Sh} {l : List UInt8} (h : vText l = false) : shC f s l = 1 := by unfold shC; rw [h]; simp
theorem shC_ok {f : Fc} {s : Sh} {l : List UInt8} (h : validF f = true) (k : shOk s = true) (t : vText l = true) : shC f s l = 0 := by unfold shC; rw [h, k, t]; rfl
theorem shC_zero {f : Fc} {s : Sh} {l : List UInt8} (h : shC f s l = 0) : validF f = true ∧ shOk s = true ∧ vText l = true := by
  unfold shC at h
  split at h
  · rename_i hh
    simp only [Bool.and_eq_true] at hh
    exact ⟨hh.1.1, hh.1.2, hh.2⟩
  · exact absurd h (by decide)

set_option maxRecDepth 100000 in
theorem sheet_spec (s : Sh) (b : Nat) (w : World) (hs : ShT s) (h : Blk w b 38 (shV s)) :
    Calls Tryd.prog 78 #[.pointer (some ⟨b, 0, none⟩)] w fun e w' => e = .returned (.bool (shOk s)) ∧ w = w' := by
  have c0 := h.cell 0 (.int .i16 s.wide) rfl
  have c1 := h.cell 1 (.int .i8 s.over) rfl
  have h1 := hs.wide
  have h2 := hs.over
  clear h hs
  cases hb : inB 1 400 s.wide
  · have HO := Lib.hid (show shOk s = false by unfold shOk; rw [hb]; rfl)
    have HB := Lib.hid hb
    clear hb
    go_enter Tryd.func78, Tryd.ntmps78
    go_wp2_with (go_at_call 60; refine (inS_any _ _ _ _).mono ?_; rintro e w1 ⟨he, rfl⟩; rw [HB.out] at he; subst he)
    go_ret
    exact ⟨retB HO.out.symm, rfl⟩
  · have HO := Lib.hid (show shOk s = inB 0 5 s.over by unfold shOk; rw [hb]; rfl)
    have HB := Lib.hid hb
    clear hb
    go_enter Tryd.func78, Tryd.ntmps78
    go_wp2_with fail
    go_at_call 60
    refine (inS_any _ _ _ _).mono ?_
    rintro e w1 ⟨he, rfl⟩
    rw [HB.out] at he
    subst he
    go_wp2_with (go_at_call 60; refine (inS_any _ _ _ _).mono ?_; rintro e w1 ⟨rfl, rfl⟩)
    go_ret
    exact ⟨retB HO.out.symm, rfl⟩

set_option maxRecDepth 100000 in
theorem shAsked_spec (f : Fc) (n b0 b : Nat) (sh : Sh) (s : ByteArray) (w : World) (hf : FcT f) (hn : f.pairs.length = n) (hm : n ≤ 1048576) (hs : s.size ≤ 1048576) (hsh : ShT sh) (h : FcAt w b0 f n) (hb : Blk w b 38 (shV sh)) :
    Calls Tryd.prog 50 #[.pointer (some ⟨b0, 0, none⟩), .pointer (some ⟨b, 0, none⟩), .string s] w fun e w' => e = .returned (.int .i64 (shC f sh (bs s))) ∧ Below w.heap.size w w' := by
  have HF := Lib.hid hf
  have HN := Lib.hid hn
  have HA := Lib.hid h
  have HB := Lib.hid hb
  have HS := Lib.hid hsh
  clear hf hn h hb hsh
  cases hv : validF f
  · have HO := Lib.hid (shC_f (s := sh) (l := bs s) hv)
    have HV := Lib.hid hv
    clear hv
    go_enter Tryd.func50, Tryd.ntmps50
    go_wp2_with (go_at_call 77; refine (face_spec f n b0 _ HF.out HN.out hm HA.out).mono ?_; rintro e w1 ⟨he, hb⟩; rw [HV.out] at he; subst he)
    go_ret
    exact ⟨retI HO.out.symm, hb⟩
  · have HV := Lib.hid hv
    cases hk : shOk sh
    · have HO := Lib.hid (shC_s (f := f) (l := bs s) hk)
      have HK := Lib.hid hk
      clear hv hk
      go_enter Tryd.func50, Tryd.ntmps50
      go_wp2_with (first
        | (go_at_call 77; refine (face_spec f n b0 _ HF.out HN.out hm HA.out).mono ?_; rintro e w1 ⟨he, hb⟩; rw [HV.out] at he; subst he)
        | (go_at_call 78; refine (sheet_spec sh b _ HS.out (HB.out.next hb)).mono ?_; rintro e w2 ⟨he, rfl⟩; rw [HK.out] at he; subst he))
      go_ret
      exact ⟨retI HO.out.symm, hb⟩
    · have HK := Lib.hid hk
      cases ht : vText (bs s)
      · have HO := Lib.hid (shC_t (f := f) (s := sh) ht)
        have HT := Lib.hid ht
        clear hv hk ht
        go_enter Tryd.func50, Tryd.ntmps50
        go_wp2_with (first
          | (go_at_call 77; refine (face_spec f n b0 _ HF.out HN.out hm HA.out).mono ?_; rintro e w1 ⟨he, hb⟩; rw [HV.out] at he; subst he)
          | (go_at_call 78; refine (sheet_spec sh b _ HS.out (HB.out.next hb)).mono ?_; rintro e w2 ⟨he, rfl⟩; rw [HK.out] at he; subst he)
          | (go_at_call 79; refine (text_spec s _ hs).mono ?_; rintro e w2 ⟨he, rfl⟩; rw [HT.out] at he; subst he))
        go_ret
        exact ⟨retI HO.out.symm, hb⟩
      · have HO := Lib.hid (shC_ok (f := f) (s := sh) hv hk ht)
        have HT := Lib.hid ht
        clear hv hk ht
        go_enter Tryd.func50, Tryd.ntmps50
        go_wp2_with (first
          | (go_at_call 77; refine (face_spec f n b0 _ HF.out HN.out hm HA.out).mono ?_; rintro e w1 ⟨he, hb⟩; rw [HV.out] at he; subst he)
          | (go_at_call 78; refine (sheet_spec sh b _ HS.out (HB.out.next hb)).mono ?_; rintro e w2 ⟨he, rfl⟩; rw [HK.out] at he; subst he)
          | (go_at_call 79; refine (text_spec s _ hs).mono ?_; rintro e w2 ⟨he, rfl⟩; rw [HT.out] at he; subst he))
        go_ret
        exact ⟨retI HO.out.symm, hb⟩
end Go.Proofs.YtonnplaacebekaaDoor
